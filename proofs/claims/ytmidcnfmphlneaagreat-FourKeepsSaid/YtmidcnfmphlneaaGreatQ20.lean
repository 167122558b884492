/- The examples of layer 11 hold. -/
import Derived.Test.YtmidcnfmphlneaaGreatQ19
namespace Go.Proofs.YtmidcnfmphlneaaGreat
open Go.RowKit
set_option linter.unusedSimpArgs false
set_option linter.unusedVariables false
def rIt (p : Plc) : Nat → List Int × Rdr → List Int × Rdr
  | 0, x => x
  | k + 1, x => (rMem p (rIt p k x).1 (rIt p k x).2, rNext p (rIt p k x).1 (rIt p k x).2)
def wIt (p : Plc) (now : Int) : Nat → List Int × Wr → List Int × Wr
  | 0, x => x
  | k + 1, x => (wMem p (wIt p now k x).1 now (wIt p now k x).2, wNext p (wIt p now k x).1 (wIt p now k x).2)
theorem rIt_ok (p : Plc) (hw : 1 ≤ p.words) (x : List Int × Rdr) (h1 : Words x.1) (h2 : ROk p x.2) : ∀ k, Words (rIt p k x).1 ∧ ROk p (rIt p k x).2 ∧ (rIt p k x).1.length = x.1.length
  | 0 => ⟨h1, h2, rfl⟩
  | k + 1 => by
    obtain ⟨q1, q2, q3⟩ := rIt_ok p hw x h1 h2 k
    exact ⟨q1.r q2, q2.next q1 hw, (rMem_len _ _ _).trans q3⟩
theorem wIt_ok (p : Plc) (now : Int) (hw : p.words ≤ 16) (x : List Int × Wr) (h1 : Words x.1) (h2 : WOk p x.2) : ∀ k, Words (wIt p now k x).1 ∧ WOk p (wIt p now k x).2 ∧ (wIt p now k x).1.length = x.1.length
  | 0 => ⟨h1, h2, rfl⟩
  | k + 1 => by
    obtain ⟨q1, q2, q3⟩ := wIt_ok p now hw x h1 h2 k
    exact ⟨q1.w hw now q2, q2.next _, (wMem_len _ _ _ _).trans q3⟩
theorem words_rep (n : Nat) : Words (List.replicate n 0) := fun x hx => by
  rw [(List.mem_replicate.1 hx).2]
  decide
theorem Duo.new {w : World} {X : List Nat} {N0 B D W g dc R bs : Nat} {p : Plc} {ws : List Int} {s : Wr} {r : Rdr} (hm : MemAt w B D ws) (hb : N0 ≤ B ∧ N0 ≤ D) (hx : B ∉ X ∧ D ∉ X) (hs : 7 ≤ s.pc) (hr : 6 ≤ r.pc) : Duo w X N0 B D W g dc R bs none 0 p ws s r :=
  ⟨hm, hb, hx, fun e => absurd e (by omega), fun e => absurd e (by omega), fun e => absurd e (by omega), fun e => absurd e (by omega), fun e => absurd e (by omega)⟩
theorem no_own (n : Nat) (q : Nat) (h : (Value.slice none n 0).ownBlock = some q) : False := by cases h
theorem Duo.newR {w w' : World} {X : List Nat} {N0 B D W g dc R bs R' : Nat} {da : Option Addr} {dr : Nat} {p : Plc} {ws : List Int} {s : Wr} {r : Rdr} (h : Duo w X N0 B D W g dc R bs da dr p ws s r) (hN : N0 ≤ w.heap.size) (hX : ∀ k, k ∈ X → k < w.heap.size) (hb : Below w.heap.size w w') (hR : RdAt w' R' (R' + 1) p rdr0 none 0) (hR' : w.heap.size ≤ R') :
    Duo w' X N0 B D W g dc R' (R' + 1) none 0 p ws s rdr0 := by
  have lB := blk_lt h.mem.head
  have lD := blk_lt h.mem.words
  refine ⟨h.mem.below hb, h.mb, h.mx, fun e => (h.wr e).but (ButS.of_below (S := []) hb) (by simp) (by simp), h.wb, fun _ => hR, fun _ => ⟨by omega, by omega, by omega, by omega, ?_, fun q hq => (no_own _ q hq).elim⟩, fun e _ => ?_⟩
  · simp only [List.mem_cons, not_or]
    exact ⟨by omega, by omega, fun hx => by have := hX _ hx; omega⟩
  · have lW := blk_lt (h.wr e).blk
    have lg := (h.wr e).lt
    exact ⟨by omega, by omega, fun q hq => (no_own _ q hq).elim⟩
theorem Duo.newW {w w' : World} {X : List Nat} {N0 B D W g dc R bs W' g' dc' : Nat} {da : Option Addr} {dr : Nat} {p : Plc} {ws : List Int} {s : Wr} {r : Rdr} (l : List Int) (h : Duo w X N0 B D W g dc R bs da dr p ws s r) (hN : N0 ≤ w.heap.size) (hX : ∀ k, k ∈ X → k < w.heap.size) (hb : Below w.heap.size w w') (hW : WrAt w' W' g' dc' p (wr0 l)) (h1 : w.heap.size ≤ W') (h2 : w.heap.size ≤ g') (h3 : g' ≠ W') :
    Duo w' X N0 B D W' g' dc' R bs da dr p ws (wr0 l) r := by
  have lB := blk_lt h.mem.head
  have lD := blk_lt h.mem.words
  refine ⟨h.mem.below hb, h.mb, h.mx, fun _ => hW, fun _ => ⟨by omega, by omega, ?_, ?_, h3⟩, fun e => (h.rd e).but (ButS.of_below (S := []) hb) (by simp) (by simp), h.rb, fun _ e => ?_⟩
  · simp only [List.mem_cons, not_or]
    exact ⟨by omega, by omega, fun hx => by have := hX _ hx; omega⟩
  · simp only [List.mem_cons, not_or]
    exact ⟨by omega, by omega, fun hx => by have := hX _ hx; omega⟩
  · have lR := blk_lt (h.rd e).blk
    exact ⟨by omega, by omega, fun q hq => by have := own_lt (h.rd e).own q hq; exact ⟨by omega, by omega⟩⟩
theorem Duo.low {w w' : World} {X : List Nat} {N0 B D W g dc R bs : Nat} {da : Option Addr} {dr : Nat} {p : Plc} {ws : List Int} {s : Wr} {r : Rdr} {w0 : World} (h : Duo w X N0 B D W g dc R bs da dr p ws s r) (h5 : r.pc ≤ 5) (hb : Below N0 w0 w) (hN : N0 ≤ w0.heap.size) (hS : ButS (R :: D :: (Value.slice da r.data.length dr).ownBlock.toList) w w') : Below N0 w0 w' := by
  obtain ⟨b0, _, _, b3, _, _⟩ := h.rb h5
  refine hS.below hb (fun k hk => ?_) (Nat.le_trans hN hb.size)
  simp only [List.mem_cons, Option.mem_toList] at hk
  rcases hk with e | e | e
  · omega
  · have := h.mb.2; omega
  · have := ((h.rd h5).own.lt k e).1; omega
theorem Duo.lowW {w w' : World} {X : List Nat} {N0 B D W g dc R bs : Nat} {da : Option Addr} {dr : Nat} {p : Plc} {ws : List Int} {s : Wr} {r : Rdr} {w0 : World} (h : Duo w X N0 B D W g dc R bs da dr p ws s r) (h6 : s.pc ≤ 6) (hb : Below N0 w0 w) (hN : N0 ≤ w0.heap.size) (hS : ButS [W, D] w w') : Below N0 w0 w' := by
  refine hS.below hb (fun k hk => ?_) (Nat.le_trans hN hb.size)
  simp only [List.mem_cons, List.not_mem_nil, or_false] at hk
  rcases hk with e | e
  · have := (h.wb h6).1; omega
  · have := h.mb.2; omega
theorem RdAt.below {w w' : World} {R bs : Nat} {p : Plc} {s : Rdr} {da : Option Addr} {dc : Nat} (h : RdAt w R bs p s da dc) (hb : Below w.heap.size w w') : RdAt w' R bs p s da dc := h.but (ButS.of_below (S := []) hb) (by simp) (by simp)
theorem WrAt.below {w w' : World} {W g dc : Nat} {p : Plc} {s : Wr} (h : WrAt w W g dc p s) (hb : Below w.heap.size w w') : WrAt w' W g dc p s := h.but (ButS.of_below (S := []) hb) (by simp) (by simp)
def wIdle : Wr := ⟨7, [], 0, 0, 0, false⟩
def rIdle : Rdr := ⟨6, 0, 0, 0, 0, []⟩
theorem did_field0 (b0 : Bool) (c0 : Int) (a0 : Option Addr) (n0 k0 : Nat) (b1 : Bool) (c1 : Int) (b2 b3 b4 : Bool) (c2 : Int) (w : World) : (Instr.field 64 (.agg #[.bool b0, .int .i64 c0, .slice a0 n0 k0, .bool b1, .int .i64 c1, .bool b2, .bool b3, .bool b4, .int .i64 c2]) 0).run Tryz.prog w = .ok (.bool b0) w := by kernel_rfl
theorem ex_r : ∀ k, k ≤ 3 → (rIt (plc4 1 3) k (List.replicate 17 0, rdr0)).2.pc ≤ 5 ∧ (rDid (plc4 1 3) (rIt (plc4 1 3) k (List.replicate 17 0, rdr0)).1 0 (rIt (plc4 1 3) k (List.replicate 17 0, rdr0)).2).done = decide (k = 3) ∧ (k = 3 → (rDid (plc4 1 3) (rIt (plc4 1 3) k (List.replicate 17 0, rdr0)).1 0 (rIt (plc4 1 3) k (List.replicate 17 0, rdr0)).2).code = 1) := by decide
theorem ex_w : ∀ k, k ≤ 6 → (wIt (plc4 1 3) 0 k ((rIt (plc4 1 3) 4 (List.replicate 17 0, rdr0)).1, wr0 [9])).2.pc ≤ 6 ∧ (wDid (plc4 1 3) (wIt (plc4 1 3) 0 k ((rIt (plc4 1 3) 4 (List.replicate 17 0, rdr0)).1, wr0 [9])).1 (wIt (plc4 1 3) 0 k ((rIt (plc4 1 3) 4 (List.replicate 17 0, rdr0)).1, wr0 [9])).2).done = decide (k = 6) := by decide
set_option maxRecDepth 100000 in
set_option maxHeartbeats 4000000 in
theorem wakes4_any (w : World) : Calls Tryz.prog 11 #[] w fun e w' => e = .returned (.bool true) ∧ Below w.heap.size w w' := by
  have hlow := plc4_low 1 3 (by omega)
  have hin : (plc4 1 3).In 17 := plc4_in 1 3 17 (by decide)
  have hrok := rIt_ok (plc4 1 3) (by decide) (List.replicate 17 0, rdr0) (words_rep 17) (rdr0_ok _ (by decide))
  have hwok := wIt_ok (plc4 1 3) 0 (by decide) ((rIt (plc4 1 3) 4 (List.replicate 17 0, rdr0)).1, wr0 [9]) (hrok 4).1 (wr0_ok _ _ (by decide) (by decide) (fun x hx => by rw [List.mem_singleton.1 hx]; decide))
  have hfd := did_field0
  have HRO := Kp.mk hrok
  have HWO := Kp.mk hwok
  clear hrok hwok
  go_enter Tryz.func11, Tryz.ntmps11
  have HB0 : Kp (Below w.heap.size w w) := ⟨Below.refl _ _⟩
  go_wp2_with fail
  refine (two4_any 1 3 _ (two4_ok 1 3 (by omega) (by omega))).mono ?_
  rintro e w1 ⟨cs, rfl, hC, hb⟩
  have HB1 : Kp (Below w.heap.size w w1) := ⟨below_call HB0.out hb⟩
  have C1 : Kp (CfgAt w1 (.agg cs) (two4 1 3)) := ⟨hC⟩
  clear HB0 hb
  obtain ⟨_, _, _, _, _, _, rfl, ⟨p1, p2, p3, rfl⟩, ⟨p4, p5, p6, rfl⟩, ⟨p7, rfl⟩, ⟨p8, p9, pA, rfl⟩, ⟨pB, rfl⟩, ⟨pC, pD, pE, rfl⟩⟩ := hC.cells
  clear hC
  go_wp2_with fail
  refine (size_two _ 1 3 (by omega) (by omega) _ ((C1.out.below (below_al (Below.refl _ _) _)))).mono ?_
  rintro e w2 ⟨rfl, hb⟩
  have q2 : Kp (w2.heap[w1.heap.size]? = some (.cells #[.slice p1 p2 p3, .slice p4 p5 p6, .int .i64 p7, .slice p8 p9 pA, .int .i64 pB, .slice pC pD pE] 31 (0, 0))) := ⟨blk_below (blk_new _ _) hb⟩
  have HB2 : Kp (Below w.heap.size w w2) := ⟨below_call (below_al HB1.out _) hb⟩
  have C2 : Kp (CfgAt w2 (.agg #[.slice p1 p2 p3, .slice p4 p5 p6, .int .i64 p7, .slice p8 p9 pA, .int .i64 pB, .slice pC pD pE]) (two4 1 3)) := ⟨(C1.out.below (below_al (Below.refl _ _) _)).below hb⟩
  clear HB1 C1 hb
  have qc0 := cbk q2.out 0 (.slice p1 p2 p3) rfl
  have qc1 := cbk q2.out 1 (.slice p4 p5 p6) rfl
  have qc2 := cbk q2.out 2 (.int .i64 p7) rfl
  have qc3 := cbk q2.out 3 (.slice p8 p9 pA) rfl
  have qc4 := cbk q2.out 4 (.int .i64 pB) rfl
  have qc5 := cbk q2.out 5 (.slice pC pD pE) rfl
  have ql := blk_lt q2.out
  go_wp2_with fail
  refine (memNew_any 17 (by decide) _).mono ?_
  rintro e w3 ⟨B, D, rfl, hM, hb, hB, hD⟩
  have q3 : Kp (w3.heap[w1.heap.size]? = some (.cells #[.slice p1 p2 p3, .slice p4 p5 p6, .int .i64 p7, .slice p8 p9 pA, .int .i64 pB, .slice pC pD pE] 31 (0, 0))) := ⟨blk_below q2.out hb⟩
  have HB3 : Kp (Below w.heap.size w w3) := ⟨below_call HB2.out hb⟩
  have C3 : Kp (CfgAt w3 (.agg #[.slice p1 p2 p3, .slice p4 p5 p6, .int .i64 p7, .slice p8 p9 pA, .int .i64 pB, .slice pC pD pE]) (two4 1 3)) := ⟨C2.out.below hb⟩
  have D3 : Kp (Duo w3 [] w.heap.size B D 0 0 0 0 0 none 0 (plc4 1 3) (List.replicate 17 0) wIdle rIdle) := ⟨Duo.new hM.out ⟨Nat.le_trans (HB2.out).size hB, Nat.le_trans (HB2.out).size hD⟩ (by simp) (by decide) (by decide)⟩
  clear qc0 qc1 qc2 qc3 qc4 qc5 ql q2 HB2 C2 hb
  have qc0 := cbk q3.out 0 (.slice p1 p2 p3) rfl
  have qc1 := cbk q3.out 1 (.slice p4 p5 p6) rfl
  have qc2 := cbk q3.out 2 (.int .i64 p7) rfl
  have qc3 := cbk q3.out 3 (.slice p8 p9 pA) rfl
  have qc4 := cbk q3.out 4 (.int .i64 pB) rfl
  have qc5 := cbk q3.out 5 (.slice pC pD pE) rfl
  have ql := blk_lt q3.out
  clear hM hB hD
  go_wp2_with fail
  refine (newR_two _ 1 3 (by omega) (by omega) _ (C3.out)).mono ?_
  rintro e w4 ⟨R, rfl, hR, hb, hRl⟩
  have q4 : Kp (w4.heap[w1.heap.size]? = some (.cells #[.slice p1 p2 p3, .slice p4 p5 p6, .int .i64 p7, .slice p8 p9 pA, .int .i64 pB, .slice pC pD pE] 31 (0, 0))) := ⟨blk_below q3.out hb⟩
  have HB4 : Kp (Below w.heap.size w w4) := ⟨below_call HB3.out hb⟩
  have C4 : Kp (CfgAt w4 (.agg #[.slice p1 p2 p3, .slice p4 p5 p6, .int .i64 p7, .slice p8 p9 pA, .int .i64 pB, .slice pC pD pE]) (two4 1 3)) := ⟨C3.out.below hb⟩
  have D4 : Kp (Duo w4 [] w.heap.size B D 0 0 0 R (R + 1) none 0 (plc4 1 3) (List.replicate 17 0) wIdle rdr0) := ⟨Duo.newR (D3.out) (HB3.out).size (by simp) hb hR.out hRl⟩
  clear qc0 qc1 qc2 qc3 qc4 qc5 ql q3 HB3 C3 D3 hb
  have qc0 := cbk q4.out 0 (.slice p1 p2 p3) rfl
  have qc1 := cbk q4.out 1 (.slice p4 p5 p6) rfl
  have qc2 := cbk q4.out 2 (.int .i64 p7) rfl
  have qc3 := cbk q4.out 3 (.slice p8 p9 pA) rfl
  have qc4 := cbk q4.out 4 (.int .i64 pB) rfl
  have qc5 := cbk q4.out 5 (.slice pC pD pE) rfl
  have ql := blk_lt q4.out
  clear hR hRl
  go_wp2_with fail
  refine (newW_two _ 1 3 (by omega) (by omega) (some ⟨w4.heap.size, 0, none⟩) 1 [9] (by decide) (by decide) _ ((C4.out.below (below_al (Below.refl _ _) _))) (row_blk ((blk_new _ _)) rfl rfl (by decide))).mono ?_
  rintro e w5 ⟨W, g, dc, rfl, hW, hb, hWl, hgl, hgW⟩
  have HB5 : Kp (Below w.heap.size w w5) := ⟨below_call (below_al HB4.out _) hb⟩
  have D5 : Kp (Duo w5 [] w.heap.size B D W g dc R (R + 1) none 0 (plc4 1 3) (List.replicate 17 0) (wr0 [9]) rdr0) := ⟨Duo.newW [9] ((D4.out.below (below_al (Below.refl _ _) _))) ((below_al HB4.out _)).size (by simp) hb hW.out hWl hgl hgW⟩
  clear qc0 qc1 qc2 qc3 qc4 qc5 ql q4 HB4 C4 D4 hb
  clear hW hWl hgl hgW
  go_wp2_with fail
  go_loopw [31] (fun i wr => ∃ k : Nat, k ≤ 3 ∧ i = .int .i64 k ∧ Kp (Below w.heap.size w wr) ∧ ∃ da dr, Kp (Duo wr [] w.heap.size B D W g dc R (R + 1) da dr (plc4 1 3) (rIt (plc4 1 3) k (List.replicate 17 0, rdr0)).1 (wr0 [9]) (rIt (plc4 1 3) k (List.replicate 17 0, rdr0)).2)) (fun i wr => 3 - (intOf i).toNat)
  case atStart => exact ⟨0, by omega, rfl, HB5, none, 0, D5⟩
  case round =>
    obtain ⟨k, hk, rfl, HB, da, dr, HD⟩ := hrel
    clear HB5 D5
    by_cases hlt : k < 3
    · obtain ⟨e1, e2, _⟩ := ex_r k hk
      rw [decide_eq_false (by omega)] at e2
      obtain ⟨d, hd⟩ : ∃ d, rDid (plc4 1 3) (rIt (plc4 1 3) k (List.replicate 17 0, rdr0)).1 0 (rIt (plc4 1 3) k (List.replicate 17 0, rdr0)).2 = d := ⟨_, rfl⟩
      have HSt := HD.out.rstep 0 (by omega) hlow (by rw [(HRO.out k).2.2]; exact hin) (HRO.out k).1 (HRO.out k).2.1 e1 (by simp)
      have hlo := fun w' => HD.out.low (w' := w') e1 HB.out (Nat.le_refl _)
      rw [hd] at HSt
      rw [hd] at e2
      have HSt2 := Kp.mk HSt
      have HLO := Kp.mk hlo
      clear HSt hlo hd HD HB
      go_wp2_with fail
      refine HSt2.out.mono ?_
      rintro e w9 ⟨a9, k9, rfl, hrow, da', dr', hD', hS, hvq⟩
      have HB9 := Kp.mk (HLO.out w9 hS)
      have HD9 := Kp.mk hD'
      clear hrow hD' hS hvq HLO HSt2
      go_wp2
      go_roundw
      case rel => exact ⟨k + 1, by omega, by go_num, HB9, da', dr', HD9⟩
      case measure => simp [intOf]; omega
    · obtain rfl : k = 3 := by omega
      obtain ⟨e1, e2, e3⟩ := ex_r 3 (by omega)
      rw [decide_eq_true rfl] at e2
      replace e3 := e3 rfl
      obtain ⟨d, hd⟩ : ∃ d, rDid (plc4 1 3) (rIt (plc4 1 3) 3 (List.replicate 17 0, rdr0)).1 0 (rIt (plc4 1 3) 3 (List.replicate 17 0, rdr0)).2 = d := ⟨_, rfl⟩
      have HSt := HD.out.rstep 0 (by omega) hlow (by rw [(HRO.out 3).2.2]; exact hin) (HRO.out 3).1 (HRO.out 3).2.1 e1 (by simp)
      have hlo := fun w' => HD.out.low (w' := w') e1 HB.out (Nat.le_refl _)
      rw [hd] at HSt
      rw [hd] at e2 e3
      have HSt2 := Kp.mk HSt
      have HLO := Kp.mk hlo
      clear HSt hlo hd HD HB
      go_wp2_with fail
      refine HSt2.out.mono ?_
      rintro e w9 ⟨a9, k9, rfl, hrow, da', dr', hD', hS, hvq⟩
      have HB9 := Kp.mk (HLO.out w9 hS)
      have HD9 := Kp.mk hD'
      clear hrow hD' hS hvq HLO HSt2
      have HB10 : Kp (Below w.heap.size w (w9.alloc (.cells #[.bool true, .int .i64 1, .slice a9 d.data.length k9, .bool d.valid, .int .i64 d.count, .bool d.mark, .bool d.ring, .bool d.stamped, .int .i64 d.buffer] 64))) := ⟨below_al HB9.out _⟩
      have HD10 := Kp.mk (HD9.out.below (below_al (Below.refl _ w9) (.cells #[.bool true, .int .i64 1, .slice a9 d.data.length k9, .bool d.valid, .int .i64 d.count, .bool d.mark, .bool d.ring, .bool d.stamped, .int .i64 d.buffer] 64)))
      clear HB9 HD9
      go_wp2_with fail
      go_loopw [50] (fun i wr => ∃ k : Nat, k ≤ 6 ∧ i = .int .i64 k ∧ Kp (Below w.heap.size w wr) ∧ ∃ da dr, Kp (Duo wr [] w.heap.size B D W g dc R (R + 1) da dr (plc4 1 3) (wIt (plc4 1 3) 0 k ((rIt (plc4 1 3) 4 (List.replicate 17 0, rdr0)).1, wr0 [9])).1 (wIt (plc4 1 3) 0 k ((rIt (plc4 1 3) 4 (List.replicate 17 0, rdr0)).1, wr0 [9])).2 (rIt (plc4 1 3) 4 (List.replicate 17 0, rdr0)).2)) (fun i wr => 6 - (intOf i).toNat)
      case atStart => exact ⟨0, by omega, rfl, HB10, da', dr', HD10⟩
      case round =>
        obtain ⟨k, hk, rfl, HB, da, dr, HD⟩ := hrel
        clear HB10 HD10
        by_cases hlt : k < 6
        · obtain ⟨e1, e2⟩ := ex_w k hk
          rw [decide_eq_false (by omega)] at e2
          obtain ⟨d, hd⟩ : ∃ d, wDid (plc4 1 3) (wIt (plc4 1 3) 0 k ((rIt (plc4 1 3) 4 (List.replicate 17 0, rdr0)).1, wr0 [9])).1 (wIt (plc4 1 3) 0 k ((rIt (plc4 1 3) 4 (List.replicate 17 0, rdr0)).1, wr0 [9])).2 = d := ⟨_, rfl⟩
          have HSt := HD.out.wstep 0 hlow (by rw [(HWO.out k).2.2, (HRO.out 4).2.2]; exact hin) (HWO.out k).1 (HWO.out k).2.1 e1
          have hlo := fun w' => HD.out.lowW (w' := w') e1 HB.out (Nat.le_refl _)
          rw [hd] at HSt
          rw [hd] at e2
          have HSt2 := Kp.mk HSt
          have HLO := Kp.mk hlo
          clear HSt hlo hd HD HB
          go_wp2_with fail
          refine HSt2.out.mono ?_
          rintro e w9 ⟨rfl, hD', hS⟩
          have HB9 := Kp.mk (HLO.out w9 hS)
          have HD9 := Kp.mk hD'
          clear hD' hS HLO HSt2
          go_wp2
          go_roundw
          case rel => exact ⟨k + 1, by omega, by go_num, HB9, da, dr, HD9⟩
          case measure => simp [intOf]; omega
        · obtain rfl : k = 6 := by omega
          obtain ⟨e1, e2⟩ := ex_w 6 (by omega)
          rw [decide_eq_true rfl] at e2
          obtain ⟨d, hd⟩ : ∃ d, wDid (plc4 1 3) (wIt (plc4 1 3) 0 6 ((rIt (plc4 1 3) 4 (List.replicate 17 0, rdr0)).1, wr0 [9])).1 (wIt (plc4 1 3) 0 6 ((rIt (plc4 1 3) 4 (List.replicate 17 0, rdr0)).1, wr0 [9])).2 = d := ⟨_, rfl⟩
          have HSt := HD.out.wstep 0 hlow (by rw [(HWO.out 6).2.2, (HRO.out 4).2.2]; exact hin) (HWO.out 6).1 (HWO.out 6).2.1 e1
          have hlo := fun w' => HD.out.lowW (w' := w') e1 HB.out (Nat.le_refl _)
          rw [hd] at HSt
          rw [hd] at e2
          have HSt2 := Kp.mk HSt
          have HLO := Kp.mk hlo
          clear HSt hlo hd HD HB
          go_wp2_with fail
          refine HSt2.out.mono ?_
          rintro e w9 ⟨rfl, hD', hS⟩
          have HB9 := Kp.mk (HLO.out w9 hS)
          have HD9 := Kp.mk hD'
          clear hD' hS HLO HSt2
          go_wp2
          go_ret
          exact ⟨rfl, HB9.out⟩
end Go.Proofs.YtmidcnfmphlneaaGreat

/- Contracts of package four: the places, a word loaded, a word stored.; The four slots, plain: what holds between any two steps goes on holding. Nothing of the program.; A region whose store meets one cell alone of a block: nothing of the program.; Contracts of package four: the writer's steps.; Contracts of package layout: pieces of a channel's span.; Contracts of package layout: a buffer.; Contracts of package layout: a cell.; Contracts of package bell.; The ends of a region's orders joined: nothing of the program. -/
import Derived.Test.YtmidcnfmphlneaaGreatQ0
import Derived.Test.YtmidcnfmphlneaaGreatQ10
import Derived.Test.YtmidcnfmphlneaaGreatQ7
import Derived.Laws.ResultCell
import Derived.Laws.BitsAllLaws
import Derived.Test.YtmidcnfmphlneaaGreatRows
import Derived.Test.YtmidcnfmphlneaaGreatQ3
import Derived.Shelf.Spec.TrailingZeros
namespace Go.Proofs.YtmidcnfmphlneaaGreat
section
open Go.RowKit
set_option linter.unusedSimpArgs false
set_option linter.unusedVariables false
structure Plc.low (p : Plc) : Prop where
  src : 0 ≤ p.src ∧ p.src ≤ 2000
  rd : 0 ≤ p.rd ∧ p.rd ≤ 2000
  words : 1 ≤ p.words ∧ p.words ≤ 16
theorem spn_field0 (a b : Int) (w : World) : (Instr.field 105 (.agg #[.int .i64 a, .int .i64 b]) 0).run Tryz.prog w = .ok (.int .i64 a) w := by kernel_rfl
end
section
theorem ld_st (ws : List Int) (a b v : Int) (ha : 0 ≤ a) (hb : 0 ≤ b) (h : a ≠ b) : ldW (stW ws a v) b = ldW ws b := ldW_st _ _ _ _ (by omega)
theorem slot_at (p : Plc) (x : Int) (h : bit x) : p.src + 1 ≤ p.slot x ∧ p.slot x ≤ p.src + 2 := by
  rcases h with rfl | rfl <;> simp only [Plc.slot] <;> omega
/-- A store that meets neither the reading word nor the slots changes nothing of it. -/
theorem Inv.store {p : Plc} {ws : List Int} {w : Wr} {r : Rdr} (h : Inv p ws w r) (a v : Int) (ok : p.ok ws.length) (ha : p.src + 3 ≤ a) (hb : a < p.rd) : Inv p (stW ws a v) w r := by
  have hs := ok.src
  have h1 := slot_at p w.pair h.wp
  exact ⟨h.wp, h.wi, h.rp, h.ri, fun c1 c2 => by rw [ld_st ws a p.rd v (by omega) (by omega) (by omega)]; exact h.tell c1 c2,
    fun c1 c2 => by rw [ld_st ws a _ v (by omega) (by omega) (by omega)]; exact h.slot c1 c2,
    fun c1 c2 c3 c4 c5 => by rw [ld_st ws a _ v (by omega) (by omega) (by omega)]; exact h.same c1 c2 c3 c4 c5⟩
end
section
open Go.RowKit
set_option linter.unusedSimpArgs false
set_option linter.unusedVariables false
theorem xc_of {W0 W : World} {b : Nat} {cs cs' : Array Value} {t : TypeId} {fz fz' : Nat × Nat} (h0 : W0.heap[b]? = some (.cells cs t fz)) (h1 : W.heap[b]? = some (.cells cs' t fz')) (j : Nat) (h : ∀ o, o ≠ j → cs'[o]? = cs[o]?) : ∀ o, o ≠ j → W.cell? ⟨b, o, none⟩ = W0.cell? ⟨b, o, none⟩ := fun o ho => by rw [cell_blk h1, cell_blk h0]; exact h o ho
theorem xc_ne {cs : Array Value} (j : Nat) (v : Value) : ∀ o, o ≠ j → (cs.setIfInBounds j v)[o]? = cs[o]? := fun o ho => Array.getElem?_setIfInBounds_ne (Ne.symm ho)
end
section
open Go.RowKit
set_option linter.unusedSimpArgs false
set_option linter.unusedVariables false
def Words (ws : List Int) : Prop := ∀ x ∈ ws, 0 ≤ x ∧ x < 4294967296
theorem ldW_word {ws : List Int} (h : Words ws) (a : Int) : 0 ≤ ldW ws a ∧ ldW ws a < 4294967296 := by
  rw [ldW, List.getD_eq_getElem?_getD]
  cases e : ws[a.toNat]? with
  | none => simp
  | some x => exact h x (List.mem_of_getElem? e)
theorem Words.st {ws : List Int} (h : Words ws) (a v : Int) (h0 : 0 ≤ v) (h1 : v < 4294967296) : Words (stW ws a v) := fun x hx => by
  rcases List.mem_or_eq_of_mem_set hx with hx | rfl
  · exact h x hx
  · exact ⟨h0, h1⟩
theorem MemAt.setne {w : World} {B D : Nat} {ws : List Int} (h : MemAt w B D ws) {p : Addr} (h1 : B ≠ p.block) (h2 : D ≠ p.block) (v : Value) : MemAt (w.setCell p v) B D ws := ⟨blk_set_ne h.head h1 v, blk_set_ne h.words h2 v, h.len⟩
theorem MemAt.drN {w : World} {B D n : Nat} {ws : List Int} (h : MemAt w B D ws) : MemAt (w.drewN n) B D ws := ⟨h.head, h.words, h.len⟩
theorem MemAt.st {w : World} {B D : Nat} {ws : List Int} (h : MemAt w B D ws) (a v : Int) : MemAt (w.setCell ⟨D, a.toNat, none⟩ (.int .u32 v)) B D (stW ws a v) := h.set a.toNat v
theorem MemAt.grown {w w1 : World} {B D : Nat} {ws : List Int} {base : Nat} {e : TypeId} {k : Nat} {v : Value} {n : Nat} {cs : List Value} (h : MemAt w B D ws) (hown : w.ownsRow base e k v n cs) (hg : w.grownBy w1 v.ownBlock) (hB : B < base) (hD : D < base) : MemAt w1 B D ws :=
  ⟨blk_grown h.head hB hown hg, blk_grown h.words hD hown hg, h.len⟩
theorem ButS.grownV {S : List Nat} {W0 W W1 : World} {v : Value} (h : ButS S W0 W) (hg : W.grownBy W1 v.ownBlock) (hs : ∀ k, v.ownBlock = some k → k ∈ S) : ButS S W0 W1 :=
  ⟨hg.os.trans h.os, hg.tape.trans h.tape, hg.output.trans h.output, Nat.le_trans h.size hg.size, fun b hb0 hn => (hg.block b (Nat.lt_of_lt_of_le hb0 h.size) fun he => hn (hs b he.symm)).trans (h.block b hb0 hn)⟩
end
section
open Go.RowKit
set_option linter.unusedSimpArgs false
set_option linter.unusedVariables false

theorem srcB_at (C : Cfg) (h : accB C = true) (k : Nat) (hk : k < C.chans.length) : srcB C k = (befC C k, sizedC (C.chans.getD k default)) := by
  rw [srcB, if_pos ⟨h, by omega, by omega⟩, Int.toNat_natCast]
set_option maxRecDepth 100000 in
set_option maxHeartbeats 4000000 in
theorem within_yes (cv : Value) (C : Cfg) (hsm : C.small) (ha : accB C = true) (k : Nat) (hk : k < C.chans.length) (kd fr sz : Int) (hkd : (C.chans.getD k default).kind = kd) (hfr : 0 ≤ fr ∧ fr ≤ 5000) (w : World) (h : CfgAt w cv C) : Calls Tryz.prog 102 #[cv, .int .i64 k, .int .i64 kd, .int .i64 fr, .int .i64 sz] w fun e w' => e = .returned (.agg #[.int .i64 (befC C k + fr), .int .i64 sz]) ∧ Below w.heap.size w w' := by
  have HC := Kp.mk h
  have HS := Kp.mk (srcB_at C ha k hk)
  have hbs := befC_small ha k
  have hcs := chn_small ha (List.getElem_mem hk)
  obtain ⟨ho, pa, pc, ca, cc, a0, c0, a1, c1, rfl, bp, bc, b0, b1, hp, hc, hw0, hw1⟩ := h
  obtain ⟨g, o, rfl, hg, hcc⟩ := hc.at (by omega)
  obtain ⟨x, hx⟩ : ∃ x, C.chans[k] = x := ⟨_, rfl⟩
  have HXG : Kp (C.chans.getD k default = x) := ⟨by rw [getD_at _ _ _ (by omega), hx]⟩
  have hcu : ∀ j, j < 7 → w.cell? ⟨g, o + k * 7 + j, none⟩ = (chanC x)[j]? := fun j hj => by
    have h1 := hcc (k * 7 + j) (by omega)
    rw [flat_at chanC 7 chanC_len C.chans k j (by omega) hj, hx] at h1
    rw [Nat.add_assoc]
    exact h1
  have HCU := Kp.mk hcu
  have hk0 : (0 : Int) ≤ (k : Int) := by omega
  have hk1 : (k : Int) < (C.chans.length : Int) := by omega
  clear hcu hcc
  have HXK : Kp (x.kind = kd) := ⟨by rw [← hkd, HXG.out]⟩
  rw [hx] at hcs
  obtain ⟨sx, hsx⟩ : ∃ sx, sizedC x = sx := ⟨_, rfl⟩
  obtain ⟨bf, hbf⟩ : ∃ bf, befC C k = bf := ⟨_, rfl⟩
  have HS2 : Kp ((srcB C k).1 = bf ∧ (srcB C k).2 = sx) := ⟨by rw [HS.out, HXG.out, hbf, hsx]; exact ⟨rfl, rfl⟩⟩
  have HBF := Kp.mk hbf
  have s1 : IntKind.i64.wrap (bf + fr) = bf + fr := IntWalk.i64_in _ (by omega)
  have hs0 : (sx == 0) = false := by rw [beq_eq_false_iff_ne]; omega
  clear hx hkd hsx
  rw [hbf] at hbs ⊢
  clear hbf
  clear ho hp hc hw0 hw1
  go_enter Tryz.func102, Tryz.ntmps102
  have HB0 : Kp (Below w.heap.size w w) := ⟨Below.refl _ _⟩
  go_wp2_with fail
  refine (source_any _ C hsm k _ (HC.out.below (below_al (below_al HB0.out _) _))).mono ?_
  rw [HS2.out.1, HS2.out.2]
  rintro e w1 ⟨rfl, hb⟩
  have q1 : Kp (w1.heap[w.heap.size]? = some (.cells #[.slice pa C.parts.length pc, .slice (some ⟨g, o, none⟩) C.chans.length cc, .int .i64 C.l0, .slice a0 C.w0.length c0, .int .i64 C.l1, .slice a1 C.w1.length c1] 31 (0, 0))) := ⟨blk_below (blk_al (blk_new _ _) _) hb⟩
  have r1 : Kp (w1.heap[w.heap.size + 1]? = some (.cells #[.int .i64 0, .int .i64 0] 105 (0, 0))) := ⟨blk_below (blk_at (w := (w.alloc (.cells #[.slice pa C.parts.length pc, .slice (some ⟨g, o, none⟩) C.chans.length cc, .int .i64 C.l0, .slice a0 C.w0.length c0, .int .i64 C.l1, .slice a1 C.w1.length c1] 31))) (by simp) _) hb⟩
  have HB1 : Kp (Below w.heap.size w w1) := ⟨below_call (below_al (below_al HB0.out _) _) hb⟩
  clear HB0 hb
  have qc0 := cbk q1.out 0 (.slice pa C.parts.length pc) rfl
  have qc1 := cbk q1.out 1 (.slice (some ⟨g, o, none⟩) C.chans.length cc) rfl
  have qc2 := cbk q1.out 2 (.int .i64 C.l0) rfl
  have qc3 := cbk q1.out 3 (.slice a0 C.w0.length c0) rfl
  have qc4 := cbk q1.out 4 (.int .i64 C.l1) rfl
  have qc5 := cbk q1.out 5 (.slice a1 C.w1.length c1) rfl
  have ql := blk_lt q1.out
  have rc0 := cbk r1.out 0 (.int .i64 0) rfl
  have rc1 := cbk r1.out 1 (.int .i64 0) rfl
  have rl := blk_lt r1.out
  have x0 : w1.cell? ⟨g, o + k * 7, none⟩ = some (.int .i64 x.kind) := (HB1.out.cell (p := ⟨g, o + k * 7, none⟩) hg).trans (HCU.out 0 (by omega))
  have hgw : g < w1.heap.size := Nat.lt_of_lt_of_le hg HB1.out.size
  rw [HXK.out] at x0
  have rf0 := frozen_blk r1.out 0
  have rf1 := frozen_blk r1.out 1
  go_wp2
  exact bodyPost_ret (v := .agg #[.int .i64 (bf + fr), .int .i64 sz]) (results_cell_row rfl _ _ _ _ _ _ _ rfl ((blk_al (blk_set (blk_set r1.out 0 _) 1 _) _).trans rfl) Tryz.underlying105 rfl (by kernel_rfl)) rfl ⟨rfl, (below_al (Below.setCell (Below.setCell HB1.out (p := ⟨w.heap.size + 1, 0, none⟩) (by show w.heap.size ≤ w.heap.size + 1; omega) _) (p := ⟨w.heap.size + 1, 1, none⟩) (by show w.heap.size ≤ w.heap.size + 1; omega) _) _)⟩
set_option maxRecDepth 100000 in
set_option maxHeartbeats 4000000 in
theorem within_kind (cv : Value) (C : Cfg) (hsm : C.small) (ha : accB C = true) (k : Nat) (hk : k < C.chans.length) (kd fr sz : Int) (hkd : (C.chans.getD k default).kind ≠ kd) (w : World) (h : CfgAt w cv C) : Calls Tryz.prog 102 #[cv, .int .i64 k, .int .i64 kd, .int .i64 fr, .int .i64 sz] w fun e w' => e = .returned (.agg #[.int .i64 0, .int .i64 0]) ∧ Below w.heap.size w w' := by
  have HC := Kp.mk h
  have HS := Kp.mk (srcB_at C ha k hk)
  have hcs := chn_small ha (List.getElem_mem hk)
  obtain ⟨ho, pa, pc, ca, cc, a0, c0, a1, c1, rfl, bp, bc, b0, b1, hp, hc, hw0, hw1⟩ := h
  obtain ⟨g, o, rfl, hg, hcc⟩ := hc.at (by omega)
  obtain ⟨x, hx⟩ : ∃ x, C.chans[k] = x := ⟨_, rfl⟩
  have HXG : Kp (C.chans.getD k default = x) := ⟨by rw [getD_at _ _ _ (by omega), hx]⟩
  have hcu : ∀ j, j < 7 → w.cell? ⟨g, o + k * 7 + j, none⟩ = (chanC x)[j]? := fun j hj => by
    have h1 := hcc (k * 7 + j) (by omega)
    rw [flat_at chanC 7 chanC_len C.chans k j (by omega) hj, hx] at h1
    rw [Nat.add_assoc]
    exact h1
  have HCU := Kp.mk hcu
  have hk0 : (0 : Int) ≤ (k : Int) := by omega
  have hk1 : (k : Int) < (C.chans.length : Int) := by omega
  clear hcu hcc
  have HXK : Kp ((x.kind == kd) = false ∧ (x.kind != kd) = true) := ⟨by rw [HXG.out] at hkd; simpa using hkd⟩
  rw [hx] at hcs
  obtain ⟨sx, hsx⟩ : ∃ sx, sizedC x = sx := ⟨_, rfl⟩
  obtain ⟨bf, hbf⟩ : ∃ bf, befC C k = bf := ⟨_, rfl⟩
  have HS2 : Kp ((srcB C k).1 = bf ∧ (srcB C k).2 = sx) := ⟨by rw [HS.out, HXG.out, hbf, hsx]; exact ⟨rfl, rfl⟩⟩
  have hs0 : (sx == 0) = false := by rw [beq_eq_false_iff_ne]; omega
  clear hx hkd hsx hbf
  clear ho hp hc hw0 hw1
  go_enter Tryz.func102, Tryz.ntmps102
  have HB0 : Kp (Below w.heap.size w w) := ⟨Below.refl _ _⟩
  go_wp2_with fail
  refine (source_any _ C hsm k _ (HC.out.below (below_al (below_al HB0.out _) _))).mono ?_
  rw [HS2.out.1, HS2.out.2]
  rintro e w1 ⟨rfl, hb⟩
  have q1 : Kp (w1.heap[w.heap.size]? = some (.cells #[.slice pa C.parts.length pc, .slice (some ⟨g, o, none⟩) C.chans.length cc, .int .i64 C.l0, .slice a0 C.w0.length c0, .int .i64 C.l1, .slice a1 C.w1.length c1] 31 (0, 0))) := ⟨blk_below (blk_al (blk_new _ _) _) hb⟩
  have r1 : Kp (w1.heap[w.heap.size + 1]? = some (.cells #[.int .i64 0, .int .i64 0] 105 (0, 0))) := ⟨blk_below (blk_at (w := (w.alloc (.cells #[.slice pa C.parts.length pc, .slice (some ⟨g, o, none⟩) C.chans.length cc, .int .i64 C.l0, .slice a0 C.w0.length c0, .int .i64 C.l1, .slice a1 C.w1.length c1] 31))) (by simp) _) hb⟩
  have HB1 : Kp (Below w.heap.size w w1) := ⟨below_call (below_al (below_al HB0.out _) _) hb⟩
  clear HB0 hb
  have qc0 := cbk q1.out 0 (.slice pa C.parts.length pc) rfl
  have qc1 := cbk q1.out 1 (.slice (some ⟨g, o, none⟩) C.chans.length cc) rfl
  have qc2 := cbk q1.out 2 (.int .i64 C.l0) rfl
  have qc3 := cbk q1.out 3 (.slice a0 C.w0.length c0) rfl
  have qc4 := cbk q1.out 4 (.int .i64 C.l1) rfl
  have qc5 := cbk q1.out 5 (.slice a1 C.w1.length c1) rfl
  have ql := blk_lt q1.out
  have rc0 := cbk r1.out 0 (.int .i64 0) rfl
  have rc1 := cbk r1.out 1 (.int .i64 0) rfl
  have rl := blk_lt r1.out
  have x0 : w1.cell? ⟨g, o + k * 7, none⟩ = some (.int .i64 x.kind) := (HB1.out.cell (p := ⟨g, o + k * 7, none⟩) hg).trans (HCU.out 0 (by omega))
  have hgw : g < w1.heap.size := Nat.lt_of_lt_of_le hg HB1.out.size
  have hx1 := HXK.out.1
  have hx2 := HXK.out.2
  have rf0 := frozen_blk r1.out 0
  have rf1 := frozen_blk r1.out 1
  go_wp2
  exact bodyPost_ret (v := .agg #[.int .i64 0, .int .i64 0]) (results_cell_row rfl _ _ _ _ _ _ _ rfl ((blk_al (blk_set (blk_set r1.out 0 _) 1 _) _).trans rfl) Tryz.underlying105 rfl (by kernel_rfl)) rfl ⟨rfl, (below_al (Below.setCell (Below.setCell HB1.out (p := ⟨w.heap.size + 1, 0, none⟩) (by show w.heap.size ≤ w.heap.size + 1; omega) _) (p := ⟨w.heap.size + 1, 1, none⟩) (by show w.heap.size ≤ w.heap.size + 1; omega) _) _)⟩
set_option maxRecDepth 100000 in
set_option maxHeartbeats 4000000 in
theorem within_no (cv : Value) (C : Cfg) (hsm : C.small) (ha : accB C = false) (k kd fr sz : Int) (w : World) (h : CfgAt w cv C) : Calls Tryz.prog 102 #[cv, .int .i64 k, .int .i64 kd, .int .i64 fr, .int .i64 sz] w fun e w' => e = .returned (.agg #[.int .i64 0, .int .i64 0]) ∧ Below w.heap.size w w' := by
  have HC := Kp.mk h
  have HS1 := srcB_no C k fun h => by rw [ha] at h; cases h.1
  have HS : Kp ((srcB C k).1 = 0 ∧ (srcB C k).2 = 0) := ⟨by rw [HS1]; exact ⟨rfl, rfl⟩⟩
  clear HS1
  obtain ⟨ho, pa, pc, ca, cc, a0, c0, a1, c1, rfl, bp, bc, b0, b1, hp, hc, hw0, hw1⟩ := h
  clear ho hp hc hw0 hw1
  go_enter Tryz.func102, Tryz.ntmps102
  have HB0 : Kp (Below w.heap.size w w) := ⟨Below.refl _ _⟩
  go_wp2_with fail
  refine (source_any _ C hsm k _ (HC.out.below (below_al (below_al HB0.out _) _))).mono ?_
  rw [HS.out.1, HS.out.2]
  rintro e w1 ⟨rfl, hb⟩
  have q1 : Kp (w1.heap[w.heap.size]? = some (.cells #[.slice pa C.parts.length pc, .slice ca C.chans.length cc, .int .i64 C.l0, .slice a0 C.w0.length c0, .int .i64 C.l1, .slice a1 C.w1.length c1] 31 (0, 0))) := ⟨blk_below (blk_al (blk_new _ _) _) hb⟩
  have r1 : Kp (w1.heap[w.heap.size + 1]? = some (.cells #[.int .i64 0, .int .i64 0] 105 (0, 0))) := ⟨blk_below (blk_at (w := (w.alloc (.cells #[.slice pa C.parts.length pc, .slice ca C.chans.length cc, .int .i64 C.l0, .slice a0 C.w0.length c0, .int .i64 C.l1, .slice a1 C.w1.length c1] 31))) (by simp) _) hb⟩
  have HB1 : Kp (Below w.heap.size w w1) := ⟨below_call (below_al (below_al HB0.out _) _) hb⟩
  clear HB0 hb
  have qc0 := cbk q1.out 0 (.slice pa C.parts.length pc) rfl
  have qc1 := cbk q1.out 1 (.slice ca C.chans.length cc) rfl
  have qc2 := cbk q1.out 2 (.int .i64 C.l0) rfl
  have qc3 := cbk q1.out 3 (.slice a0 C.w0.length c0) rfl
  have qc4 := cbk q1.out 4 (.int .i64 C.l1) rfl
  have qc5 := cbk q1.out 5 (.slice a1 C.w1.length c1) rfl
  have ql := blk_lt q1.out
  have rc0 := cbk r1.out 0 (.int .i64 0) rfl
  have rc1 := cbk r1.out 1 (.int .i64 0) rfl
  have rl := blk_lt r1.out
  have rf0 := frozen_blk r1.out 0
  have rf1 := frozen_blk r1.out 1
  go_wp2
  exact bodyPost_ret (v := .agg #[.int .i64 0, .int .i64 0]) (results_cell_row rfl _ _ _ _ _ _ _ rfl ((blk_al (blk_set (blk_set r1.out 0 _) 1 _) _).trans rfl) Tryz.underlying105 rfl (by kernel_rfl)) rfl ⟨rfl, (below_al (Below.setCell (Below.setCell HB1.out (p := ⟨w.heap.size + 1, 0, none⟩) (by show w.heap.size ≤ w.heap.size + 1; omega) _) (p := ⟨w.heap.size + 1, 1, none⟩) (by show w.heap.size ≤ w.heap.size + 1; omega) _) _)⟩
end
section
open Go.RowKit
set_option linter.unusedSimpArgs false
set_option linter.unusedVariables false
theorem cellB_no (C : Cfg) (k i : Int) (h : ¬ (accB C = true ∧ 0 ≤ k ∧ k < C.chans.length ∧ (C.chans.getD k.toNat default).kind = 2 ∧ 0 ≤ i ∧ i < (C.chans.getD k.toNat default).depth)) : cellB C k i = (0, 0) := if_neg h
theorem cellB_yes (C : Cfg) (k : Nat) (i : Int) (h : accB C = true ∧ k < C.chans.length ∧ (C.chans.getD k default).kind = 2 ∧ 0 ≤ i ∧ i < (C.chans.getD k default).depth) : cellB C k i = (befC C k + (1 + i * (1 + (C.chans.getD k default).words)), 1 + (C.chans.getD k default).words) := by
  rw [cellB, if_pos ⟨h.1, by omega, by omega, by simpa using h.2.2.1, h.2.2.2.1, by simpa using h.2.2.2.2⟩, Int.toNat_natCast]
end
section
open Go.RowKit
set_option linter.unusedSimpArgs false
set_option linter.unusedVariables false
set_option maxRecDepth 100000 in
set_option maxHeartbeats 4000000 in
theorem cell_k (cv : Value) (C : Cfg) (hsm : C.small) (k i : Int) (hk : ¬ (0 ≤ k ∧ k < C.chans.length)) (w : World) (h : CfgAt w cv C) : Calls Tryz.prog 88 #[cv, .int .i64 k, .int .i64 i] w fun e w' => e = .returned (.agg #[.int .i64 (cellB C k i).1, .int .i64 (cellB C k i).2]) ∧ Below w.heap.size w w' := by
  have HC := Kp.mk h
  have HZ := Kp.mk (cellB_no C k i fun h => hk ⟨h.2.1, h.2.2.1⟩)
  obtain ⟨ho, pa, pc, ca, cc, a0, c0, a1, c1, rfl, bp, bc, b0, b1, hp, hc, hw0, hw1⟩ := h
  clear ho hp hc hw0 hw1
  by_cases h0 : k < 0
  · go_enter Tryz.func88, Tryz.ntmps88
    have HB0 : Kp (Below w.heap.size w w) := ⟨Below.refl _ _⟩
    go_wp2
    exact bodyPost_ret (v := .agg #[.int .i64 0, .int .i64 0]) (results_cell_row rfl _ _ _ _ _ _ _ rfl (blk_at (w := (w.alloc (.cells #[.slice pa C.parts.length pc, .slice ca C.chans.length cc, .int .i64 C.l0, .slice a0 C.w0.length c0, .int .i64 C.l1, .slice a1 C.w1.length c1] 31))) (by simp) _) Tryz.underlying105 rfl (by kernel_rfl)) rfl ⟨zero_out HZ.out, (below_al (below_al HB0.out _) _)⟩
  · have h1 : decide (k < 0) = false := decide_eq_false h0
    have h2 : (C.chans.length : Int) ≤ k := by omega
    clear hk
    go_enter Tryz.func88, Tryz.ntmps88
    have HB0 : Kp (Below w.heap.size w w) := ⟨Below.refl _ _⟩
    go_wp2
    exact bodyPost_ret (v := .agg #[.int .i64 0, .int .i64 0]) (results_cell_row rfl _ _ _ _ _ _ _ rfl (blk_at (w := (w.alloc (.cells #[.slice pa C.parts.length pc, .slice ca C.chans.length cc, .int .i64 C.l0, .slice a0 C.w0.length c0, .int .i64 C.l1, .slice a1 C.w1.length c1] 31))) (by simp) _) Tryz.underlying105 rfl (by kernel_rfl)) rfl ⟨zero_out HZ.out, (below_al (below_al HB0.out _) _)⟩
set_option maxRecDepth 100000 in
set_option maxHeartbeats 4000000 in
theorem cell_neg (cv : Value) (C : Cfg) (hsm : C.small) (k : Nat) (hk : k < C.chans.length) (i : Int) (hb : i < 0) (w : World) (h : CfgAt w cv C) : Calls Tryz.prog 88 #[cv, .int .i64 k, .int .i64 i] w fun e w' => e = .returned (.agg #[.int .i64 (cellB C k i).1, .int .i64 (cellB C k i).2]) ∧ Below w.heap.size w w' := by
  have HC := Kp.mk h
  have HZ := Kp.mk (cellB_no C k i fun h => by omega)
  have h1 : decide ((k : Int) < 0) = false := decide_eq_false (by omega)
  have h2 : decide ((C.chans.length : Int) ≤ (k : Int)) = false := decide_eq_false (by omega)
  have h3 : decide (C.chans.length ≤ k) = false := decide_eq_false (by omega)
  obtain ⟨ho, pa, pc, ca, cc, a0, c0, a1, c1, rfl, bp, bc, b0, b1, hp, hc, hw0, hw1⟩ := h
  clear ho hp hc hw0 hw1
  go_enter Tryz.func88, Tryz.ntmps88
  have HB0 : Kp (Below w.heap.size w w) := ⟨Below.refl _ _⟩
  go_wp2
  exact bodyPost_ret (v := .agg #[.int .i64 0, .int .i64 0]) (results_cell_row rfl _ _ _ _ _ _ _ rfl (blk_at (w := (w.alloc (.cells #[.slice pa C.parts.length pc, .slice ca C.chans.length cc, .int .i64 C.l0, .slice a0 C.w0.length c0, .int .i64 C.l1, .slice a1 C.w1.length c1] 31))) (by simp) _) Tryz.underlying105 rfl (by kernel_rfl)) rfl ⟨zero_out HZ.out, (below_al (below_al HB0.out _) _)⟩
set_option maxRecDepth 100000 in
set_option maxHeartbeats 4000000 in
theorem cell_big (cv : Value) (C : Cfg) (hsm : C.small) (k : Nat) (hk : k < C.chans.length) (i : Int) (hb : 0 ≤ i) (hd : (C.chans.getD k default).depth ≤ i) (w : World) (h : CfgAt w cv C) : Calls Tryz.prog 88 #[cv, .int .i64 k, .int .i64 i] w fun e w' => e = .returned (.agg #[.int .i64 (cellB C k i).1, .int .i64 (cellB C k i).2]) ∧ Below w.heap.size w w' := by
  have HC := Kp.mk h
  have HZ := Kp.mk (cellB_no C k i fun h => by have := h.2.2.2.2.2; rw [Int.toNat_natCast] at this; omega)
  have h1 : decide ((k : Int) < 0) = false := decide_eq_false (by omega)
  have h2 : decide ((C.chans.length : Int) ≤ (k : Int)) = false := decide_eq_false (by omega)
  have h3 : decide (C.chans.length ≤ k) = false := decide_eq_false (by omega)
  have h4 : decide (i < 0) = false := decide_eq_false (by omega)
  obtain ⟨ho, pa, pc, ca, cc, a0, c0, a1, c1, rfl, bp, bc, b0, b1, hp, hc, hw0, hw1⟩ := h
  obtain ⟨g, o, rfl, hg, hcc⟩ := hc.at (by omega)
  obtain ⟨x, hx⟩ : ∃ x, C.chans[k] = x := ⟨_, rfl⟩
  have HXG : Kp (C.chans.getD k default = x) := ⟨by rw [getD_at _ _ _ (by omega), hx]⟩
  have hcu : ∀ j, j < 7 → w.cell? ⟨g, o + k * 7 + j, none⟩ = (chanC x)[j]? := fun j hj => by
    have h1 := hcc (k * 7 + j) (by omega)
    rw [flat_at chanC 7 chanC_len C.chans k j (by omega) hj, hx] at h1
    rw [Nat.add_assoc]
    exact h1
  have HCU := Kp.mk hcu
  have hk0 : (0 : Int) ≤ (k : Int) := by omega
  have hk1 : (k : Int) < (C.chans.length : Int) := by omega
  clear hcu hcc
  have HXD : Kp ((C.chans.getD k default).depth = x.depth) := ⟨by rw [HXG.out]⟩
  rw [HXG.out] at hd
  clear hx
  clear ho hp hc hw0 hw1
  go_enter Tryz.func88, Tryz.ntmps88
  have x4 : w.cell? ⟨g, o + k * 7 + 4, none⟩ = some (.int .i64 x.depth) := ((Below.refl w.heap.size w).cell (p := ⟨g, o + k * 7 + 4, none⟩) hg).trans (HCU.out 4 (by omega))
  have hgw : g < w.heap.size := Nat.lt_of_lt_of_le hg (Below.refl w.heap.size w).size
  have HB0 : Kp (Below w.heap.size w w) := ⟨Below.refl _ _⟩
  go_wp2
  exact bodyPost_ret (v := .agg #[.int .i64 0, .int .i64 0]) (results_cell_row rfl _ _ _ _ _ _ _ rfl (blk_at (w := (w.alloc (.cells #[.slice pa C.parts.length pc, .slice (some ⟨g, o, none⟩) C.chans.length cc, .int .i64 C.l0, .slice a0 C.w0.length c0, .int .i64 C.l1, .slice a1 C.w1.length c1] 31))) (by simp) _) Tryz.underlying105 rfl (by kernel_rfl)) rfl ⟨zero_out HZ.out, (below_al (below_al HB0.out _) _)⟩
set_option maxRecDepth 100000 in
set_option maxHeartbeats 4000000 in
theorem cell_yes (cv : Value) (C : Cfg) (hsm : C.small) (ha : accB C = true) (k : Nat) (hk : k < C.chans.length) (hkd : (C.chans.getD k default).kind = 2) (i : Int) (hb : 0 ≤ i) (hd : i < (C.chans.getD k default).depth) (w : World) (h : CfgAt w cv C) : Calls Tryz.prog 88 #[cv, .int .i64 k, .int .i64 i] w fun e w' => e = .returned (.agg #[.int .i64 (cellB C k i).1, .int .i64 (cellB C k i).2]) ∧ Below w.heap.size w w' := by
  have HC := Kp.mk h
  have HS := Kp.mk (cellB_yes C k i ⟨ha, hk, hkd, hb, hd⟩)
  have hcs := chn_small ha (List.getElem_mem hk)
  have h1 : decide ((k : Int) < 0) = false := decide_eq_false (by omega)
  have h2 : decide ((C.chans.length : Int) ≤ (k : Int)) = false := decide_eq_false (by omega)
  have h3 : decide (C.chans.length ≤ k) = false := decide_eq_false (by omega)
  have h4 : decide (i < 0) = false := decide_eq_false (by omega)
  obtain ⟨ho, pa, pc, ca, cc, a0, c0, a1, c1, rfl, bp, bc, b0, b1, hp, hc, hw0, hw1⟩ := h
  obtain ⟨g, o, rfl, hg, hcc⟩ := hc.at (by omega)
  obtain ⟨x, hx⟩ : ∃ x, C.chans[k] = x := ⟨_, rfl⟩
  have HXG : Kp (C.chans.getD k default = x) := ⟨by rw [getD_at _ _ _ (by omega), hx]⟩
  have hcu : ∀ j, j < 7 → w.cell? ⟨g, o + k * 7 + j, none⟩ = (chanC x)[j]? := fun j hj => by
    have h1 := hcc (k * 7 + j) (by omega)
    rw [flat_at chanC 7 chanC_len C.chans k j (by omega) hj, hx] at h1
    rw [Nat.add_assoc]
    exact h1
  have HCU := Kp.mk hcu
  have hk0 : (0 : Int) ≤ (k : Int) := by omega
  have hk1 : (k : Int) < (C.chans.length : Int) := by omega
  clear hcu hcc
  rw [hx] at hcs
  rw [HXG.out] at hd
  have HS2 : Kp (cellB C k i = (befC C k + (1 + i * (1 + x.words)), 1 + x.words)) := ⟨by rw [HS.out, HXG.out]⟩
  have h5 : decide (x.depth ≤ i) = false := decide_eq_false (by omega)
  have s1 : IntKind.i64.wrap (1 + x.words) = 1 + x.words := IntWalk.i64_in _ (by omega)
  obtain ⟨m, hm⟩ : ∃ m, i * (1 + x.words) = m := ⟨_, rfl⟩
  have hm1 : 0 ≤ m := hm ▸ Int.mul_nonneg hb (by omega)
  have hm2 : m ≤ 8 * 17 := hm ▸ Int.mul_le_mul (by omega) (by omega) (by omega) (by omega)
  have s2 : IntKind.i64.wrap (i * (1 + x.words)) = m := by rw [hm]; exact IntWalk.i64_in _ (by omega)
  have s3 : IntKind.i64.wrap (1 + m) = 1 + m := IntWalk.i64_in _ (by omega)
  have HS3 : Kp (cellB C k i = (befC C k + (1 + m), 1 + x.words)) := ⟨by rw [HS2.out, hm]⟩
  clear hx hm
  clear ho hp hc hw0 hw1
  go_enter Tryz.func88, Tryz.ntmps88
  have x3 : w.cell? ⟨g, o + k * 7 + 3, none⟩ = some (.int .i64 x.words) := ((Below.refl w.heap.size w).cell (p := ⟨g, o + k * 7 + 3, none⟩) hg).trans (HCU.out 3 (by omega))
  have x4 : w.cell? ⟨g, o + k * 7 + 4, none⟩ = some (.int .i64 x.depth) := ((Below.refl w.heap.size w).cell (p := ⟨g, o + k * 7 + 4, none⟩) hg).trans (HCU.out 4 (by omega))
  have hgw : g < w.heap.size := Nat.lt_of_lt_of_le hg (Below.refl w.heap.size w).size
  have HB0 : Kp (Below w.heap.size w w) := ⟨Below.refl _ _⟩
  go_wp2_with fail
  refine (within_yes _ C hsm ha k hk 2 (1 + m) _ hkd (by omega) _ (HC.out.below (below_al (below_al HB0.out _) _))).mono ?_
  rintro e w1 ⟨rfl, hb⟩
  have q1 : Kp (w1.heap[w.heap.size]? = some (.cells #[.slice pa C.parts.length pc, .slice (some ⟨g, o, none⟩) C.chans.length cc, .int .i64 C.l0, .slice a0 C.w0.length c0, .int .i64 C.l1, .slice a1 C.w1.length c1] 31 (0, 0))) := ⟨blk_below (blk_al (blk_new _ _) _) hb⟩
  have r1 : Kp (w1.heap[w.heap.size + 1]? = some (.cells #[.int .i64 0, .int .i64 0] 105 (0, 0))) := ⟨blk_below (blk_at (w := (w.alloc (.cells #[.slice pa C.parts.length pc, .slice (some ⟨g, o, none⟩) C.chans.length cc, .int .i64 C.l0, .slice a0 C.w0.length c0, .int .i64 C.l1, .slice a1 C.w1.length c1] 31))) (by simp) _) hb⟩
  have HB1 : Kp (Below w.heap.size w w1) := ⟨below_call (below_al (below_al HB0.out _) _) hb⟩
  clear HB0 hb
  have qc0 := cbk q1.out 0 (.slice pa C.parts.length pc) rfl
  have qc1 := cbk q1.out 1 (.slice (some ⟨g, o, none⟩) C.chans.length cc) rfl
  have qc2 := cbk q1.out 2 (.int .i64 C.l0) rfl
  have qc3 := cbk q1.out 3 (.slice a0 C.w0.length c0) rfl
  have qc4 := cbk q1.out 4 (.int .i64 C.l1) rfl
  have qc5 := cbk q1.out 5 (.slice a1 C.w1.length c1) rfl
  have ql := blk_lt q1.out
  have rc0 := cbk r1.out 0 (.int .i64 0) rfl
  have rc1 := cbk r1.out 1 (.int .i64 0) rfl
  have rl := blk_lt r1.out
  have rf0 := frozen_blk r1.out 0
  have rf1 := frozen_blk r1.out 1
  go_wp2
  exact bodyPost_ret (v := .agg #[.int .i64 (befC C k + (1 + m)), .int .i64 (1 + x.words)]) (results_cell_row rfl _ _ _ _ _ _ _ rfl ((blk_set (blk_set r1.out 0 _) 1 _).trans rfl) Tryz.underlying105 rfl (by kernel_rfl)) rfl ⟨(by rw [HS3.out]), (Below.setCell (Below.setCell HB1.out (p := ⟨w.heap.size + 1, 0, none⟩) (by show w.heap.size ≤ w.heap.size + 1; omega) _) (p := ⟨w.heap.size + 1, 1, none⟩) (by show w.heap.size ≤ w.heap.size + 1; omega) _)⟩
set_option maxRecDepth 100000 in
set_option maxHeartbeats 4000000 in
theorem cell_no (cv : Value) (C : Cfg) (hsm : C.small) (k : Nat) (hk : k < C.chans.length) (i : Int) (hb : 0 ≤ i) (hd : i < (C.chans.getD k default).depth) (hno : accB C = false ∨ accB C = true ∧ (C.chans.getD k default).kind ≠ 2) (w : World) (h : CfgAt w cv C) : Calls Tryz.prog 88 #[cv, .int .i64 k, .int .i64 i] w fun e w' => e = .returned (.agg #[.int .i64 (cellB C k i).1, .int .i64 (cellB C k i).2]) ∧ Below w.heap.size w w' := by
  have HC := Kp.mk h
  have HZ := Kp.mk (cellB_no C k i fun h => by rcases hno with h1 | ⟨_, h1⟩; (rw [h1] at h; cases h.1); exact h1 (by simpa using h.2.2.2.1))
  have h1 : decide ((k : Int) < 0) = false := decide_eq_false (by omega)
  have h2 : decide ((C.chans.length : Int) ≤ (k : Int)) = false := decide_eq_false (by omega)
  have h3 : decide (C.chans.length ≤ k) = false := decide_eq_false (by omega)
  have h4 : decide (i < 0) = false := decide_eq_false (by omega)
  obtain ⟨ho, pa, pc, ca, cc, a0, c0, a1, c1, rfl, bp, bc, b0, b1, hp, hc, hw0, hw1⟩ := h
  obtain ⟨g, o, rfl, hg, hcc⟩ := hc.at (by omega)
  obtain ⟨x, hx⟩ : ∃ x, C.chans[k] = x := ⟨_, rfl⟩
  have HXG : Kp (C.chans.getD k default = x) := ⟨by rw [getD_at _ _ _ (by omega), hx]⟩
  have hcu : ∀ j, j < 7 → w.cell? ⟨g, o + k * 7 + j, none⟩ = (chanC x)[j]? := fun j hj => by
    have h1 := hcc (k * 7 + j) (by omega)
    rw [flat_at chanC 7 chanC_len C.chans k j (by omega) hj, hx] at h1
    rw [Nat.add_assoc]
    exact h1
  have HCU := Kp.mk hcu
  have hk0 : (0 : Int) ≤ (k : Int) := by omega
  have hk1 : (k : Int) < (C.chans.length : Int) := by omega
  clear hcu hcc
  rw [HXG.out] at hd
  have h5 : decide (x.depth ≤ i) = false := decide_eq_false (by omega)
  clear hx
  clear ho hp hc hw0 hw1
  go_enter Tryz.func88, Tryz.ntmps88
  have x3 : w.cell? ⟨g, o + k * 7 + 3, none⟩ = some (.int .i64 x.words) := ((Below.refl w.heap.size w).cell (p := ⟨g, o + k * 7 + 3, none⟩) hg).trans (HCU.out 3 (by omega))
  have x4 : w.cell? ⟨g, o + k * 7 + 4, none⟩ = some (.int .i64 x.depth) := ((Below.refl w.heap.size w).cell (p := ⟨g, o + k * 7 + 4, none⟩) hg).trans (HCU.out 4 (by omega))
  have hgw : g < w.heap.size := Nat.lt_of_lt_of_le hg (Below.refl w.heap.size w).size
  have HB0 : Kp (Below w.heap.size w w) := ⟨Below.refl _ _⟩
  go_wp2_with fail
  have HW : ∀ kd fr sz : Int, kd = 2 → ∀ w1, CfgAt w1 (.agg #[.slice pa C.parts.length pc, .slice (some ⟨g, o, none⟩) C.chans.length cc, .int .i64 C.l0, .slice a0 C.w0.length c0, .int .i64 C.l1, .slice a1 C.w1.length c1]) C → Calls Tryz.prog 102 #[.agg #[.slice pa C.parts.length pc, .slice (some ⟨g, o, none⟩) C.chans.length cc, .int .i64 C.l0, .slice a0 C.w0.length c0, .int .i64 C.l1, .slice a1 C.w1.length c1], .int .i64 k, .int .i64 kd, .int .i64 fr, .int .i64 sz] w1 fun e w' => e = .returned (.agg #[.int .i64 0, .int .i64 0]) ∧ Below w1.heap.size w1 w' := fun kd fr sz hkd w1 hc1 => by
    rcases hno with h1 | ⟨h0, h1⟩
    · exact within_no _ C hsm h1 k kd fr sz w1 hc1
    · exact within_kind _ C hsm h0 k hk kd fr sz (hkd ▸ h1) w1 hc1
  have HW' := Kp.mk HW
  clear HW
  refine (HW'.out 2 _ _ rfl _ (HC.out.below (below_al (below_al HB0.out _) _))).mono ?_
  rintro e w1 ⟨rfl, hb⟩
  have q1 : Kp (w1.heap[w.heap.size]? = some (.cells #[.slice pa C.parts.length pc, .slice (some ⟨g, o, none⟩) C.chans.length cc, .int .i64 C.l0, .slice a0 C.w0.length c0, .int .i64 C.l1, .slice a1 C.w1.length c1] 31 (0, 0))) := ⟨blk_below (blk_al (blk_new _ _) _) hb⟩
  have r1 : Kp (w1.heap[w.heap.size + 1]? = some (.cells #[.int .i64 0, .int .i64 0] 105 (0, 0))) := ⟨blk_below (blk_at (w := (w.alloc (.cells #[.slice pa C.parts.length pc, .slice (some ⟨g, o, none⟩) C.chans.length cc, .int .i64 C.l0, .slice a0 C.w0.length c0, .int .i64 C.l1, .slice a1 C.w1.length c1] 31))) (by simp) _) hb⟩
  have HB1 : Kp (Below w.heap.size w w1) := ⟨below_call (below_al (below_al HB0.out _) _) hb⟩
  clear HB0 hb
  have qc0 := cbk q1.out 0 (.slice pa C.parts.length pc) rfl
  have qc1 := cbk q1.out 1 (.slice (some ⟨g, o, none⟩) C.chans.length cc) rfl
  have qc2 := cbk q1.out 2 (.int .i64 C.l0) rfl
  have qc3 := cbk q1.out 3 (.slice a0 C.w0.length c0) rfl
  have qc4 := cbk q1.out 4 (.int .i64 C.l1) rfl
  have qc5 := cbk q1.out 5 (.slice a1 C.w1.length c1) rfl
  have ql := blk_lt q1.out
  have rc0 := cbk r1.out 0 (.int .i64 0) rfl
  have rc1 := cbk r1.out 1 (.int .i64 0) rfl
  have rl := blk_lt r1.out
  have rf0 := frozen_blk r1.out 0
  have rf1 := frozen_blk r1.out 1
  go_wp2
  exact bodyPost_ret (v := .agg #[.int .i64 0, .int .i64 0]) (results_cell_row rfl _ _ _ _ _ _ _ rfl ((blk_set (blk_set r1.out 0 _) 1 _).trans rfl) Tryz.underlying105 rfl (by kernel_rfl)) rfl ⟨zero_out HZ.out, (Below.setCell (Below.setCell HB1.out (p := ⟨w.heap.size + 1, 0, none⟩) (by show w.heap.size ≤ w.heap.size + 1; omega) _) (p := ⟨w.heap.size + 1, 1, none⟩) (by show w.heap.size ≤ w.heap.size + 1; omega) _)⟩
theorem cell_any (cv : Value) (C : Cfg) (hsm : C.small) (k i : Int) (w : World) (h : CfgAt w cv C) : Calls Tryz.prog 88 #[cv, .int .i64 k, .int .i64 i] w fun e w' => e = .returned (.agg #[.int .i64 (cellB C k i).1, .int .i64 (cellB C k i).2]) ∧ Below w.heap.size w w' := by
  by_cases hk : 0 ≤ k ∧ k < C.chans.length
  · obtain ⟨j, rfl⟩ := Int.eq_ofNat_of_zero_le hk.1
    have hj : j < C.chans.length := by omega
    by_cases hi : i < 0
    · exact cell_neg cv C hsm j hj i hi w h
    · by_cases hd : i < (C.chans.getD j default).depth
      · by_cases hno : accB C = true ∧ (C.chans.getD j default).kind = 2
        · exact cell_yes cv C hsm hno.1 j hj hno.2 i (by omega) hd w h
        · have hno' : accB C = false ∨ accB C = true ∧ (C.chans.getD j default).kind ≠ 2 := by
            cases ha : accB C with
            | false => exact .inl rfl
            | true => exact .inr ⟨rfl, fun hh => hno ⟨ha, hh⟩⟩
          exact cell_no cv C hsm j hj i (by omega) hd hno' w h
      · exact cell_big cv C hsm j hj i (by omega) (by omega) w h
  · exact cell_k cv C hsm k i hk w h
end
section
open Go.RowKit
set_option linter.unusedSimpArgs false
set_option linter.unusedVariables false

/-- Bells in block B: x tells which are pending. -/
def BAt (w : World) (B : Nat) (x : List Bool) : Prop := ∃ b : Nat, w.heap[B]? = some (.cells #[.int .i64 x.length, .int .u64 b] 135 (0, 0)) ∧ (∀ i, b.testBit i = x.getD i false) ∧ x.length ≤ 64
theorem BAt.lt {w : World} {B : Nat} {x : List Bool} (h : BAt w B x) : B < w.heap.size := by
  obtain ⟨b, h1, _⟩ := h
  exact blk_lt h1
theorem BAt.but {S : List Nat} {w w1 : World} {B : Nat} {x : List Bool} (h : BAt w B x) (hb : ButS S w w1) (h1 : B ∉ S) : BAt w1 B x := by
  obtain ⟨b, h2, h3⟩ := h
  exact ⟨b, hb.blk h2 h1, h3⟩
theorem BAt.below {w w1 : World} {B : Nat} {x : List Bool} (h : BAt w B x) (hb : Below w.heap.size w w1) : BAt w1 B x := h.but (S := []) (ButS.of_below hb) (by simp)
theorem BAt.low {w w1 : World} {B n₀ : Nat} {x : List Bool} (h : BAt w B x) (hb : Below n₀ w w1) (h1 : B < n₀) : BAt w1 B x := by
  obtain ⟨b, h2, h3⟩ := h
  exact ⟨b, (hb.block B h1).trans h2, h3⟩
theorem bits_lt {b : Nat} {x : List Bool} (hb : ∀ i, b.testBit i = x.getD i false) (hx : x.length ≤ 64) : b < 18446744073709551616 := by
  refine Nat.lt_pow_two_of_testBit (n := 64) _ fun i hi => ?_
  rw [hb, List.getD_eq_getElem?_getD, List.getElem?_eq_none (by omega)]
  rfl
/-- One bell more is pending (none, beyond the end). -/
def ringB (x : List Bool) (i : Int) : List Bool := (List.range x.length).map fun k : Nat => x.getD k false || decide ((k : Int) = i)
theorem ringB_len (x : List Bool) (i : Int) : (ringB x i).length = x.length := by simp [ringB]
theorem ringB_out (x : List Bool) (i : Int) (h : i < 0 ∨ (x.length : Int) ≤ i) : ringB x i = x := by
  refine List.ext_getElem (ringB_len x i) fun k h1 h2 => ?_
  have hk : ¬ (k : Int) = i := by omega
  simp [ringB, hk, h2]
theorem ringB_bits (x : List Bool) (j : Nat) (hj : j < x.length) (b : Nat) (hb : ∀ i, b.testBit i = x.getD i false) (i : Nat) : (b ||| 2 ^ j).testBit i = (ringB x j).getD i false := by
  rw [Nat.testBit_or, hb, Nat.testBit_two_pow]
  simp only [ringB, List.getD_eq_getElem?_getD, List.getElem?_map, List.getElem?_range]
  by_cases hi : i < x.length
  · have h1 : decide (j = i) = decide ((i : Int) = (j : Int)) := by rw [decide_eq_decide]; omega
    rw [h1]
    simp [hi]
  · have h1 : ¬ j = i := by omega
    simp [hi, h1]
theorem pow_wrap (i : Nat) (hi : i < 64) : IntKind.u64.wrap ((2 : Int) ^ i) = ((2 ^ i : Nat) : Int) := by
  have h : (2 : Nat) ^ i < 2 ^ 64 := Nat.pow_lt_pow_right (by decide) hi
  rw [show (2 : Int) ^ i = ((2 ^ i : Nat) : Int) by simp]
  generalize 2 ^ i = z at h ⊢
  exact IntWalk.u64_in _ (by omega)
theorem or_bit (b i : Nat) (hb : b < 18446744073709551616) (hi : i < 64) : bits .or .u64 (b : Int) (IntKind.u64.wrap ((2 : Int) ^ i)) = ((b ||| 2 ^ i : Nat) : Int) := by
  rw [pow_wrap i hi, u64_or_nat b _ hb (Nat.pow_lt_pow_right (a := 2) (m := i) (n := 64) (by decide) hi)]
theorem has_bit (b i : Nat) (hb : b < 18446744073709551616) : (bits .and .u64 ((b : Int) / (2 : Int) ^ i) 1 == 1) = b.testBit i := by
  have h1 : (b : Int) / (2 : Int) ^ i = ((b / 2 ^ i : Nat) : Int) := by simp
  have h2 : b / 2 ^ i < 18446744073709551616 := Nat.lt_of_le_of_lt (Nat.div_le_self _ _) hb
  have h3 : bits .and .u64 ((b / 2 ^ i : Nat) : Int) 1 = ((b / 2 ^ i &&& 1 : Nat) : Int) := u64_and_nat _ 1 h2 (by decide)
  rw [h1, h3, nat_mask1, Nat.testBit_eq_decide_div_mod_eq]
  generalize b / 2 ^ i % 2 = z
  by_cases hz : z = 1
  · subst hz; rfl
  · rw [decide_eq_false hz, beq_eq_false_iff_ne]; omega
set_option maxHeartbeats 400000 in
theorem bellNew_any (n : Nat) (hn : n ≤ 64) (w : World) : Calls Tryz.prog 37 #[.int .i64 n] w fun e w' =>
    ∃ B, e = .returned (.tuple #[.pointer (some ⟨B, 0, none⟩), .int .i64 0]) ∧ Kp (BAt w' B (List.replicate n false)) ∧ Below w.heap.size w w' ∧ w.heap.size ≤ B := by
  go_enter Tryz.func37, Tryz.ntmps37
  go_wp2
  go_ret2
  refine ⟨_, rfl, ⟨0, ?_, fun i => ?_, by simpa using hn⟩, below_al (Below.refl _ _) _, Nat.le_refl _⟩
  · rw [List.length_replicate]
    exact blk_new w _
  · by_cases h : i < n <;> simp [List.getD_eq_getElem?_getD, h]

set_option maxHeartbeats 400000 in
theorem bellRing_out (B : Nat) (x : List Bool) (i : Int) (hi : i < 0 ∨ (x.length : Int) ≤ i) (w : World) (h : BAt w B x) : Calls Tryz.prog 69 #[.pointer (some ⟨B, 0, none⟩), .int .i64 i] w fun e w' => e = .returned (.int .i64 7) ∧ w' = w := by
  obtain ⟨b, h1, h2, h3⟩ := h
  have c0 : w.cell? ⟨B, 0, none⟩ = some (.int .i64 x.length) := (cell_blk h1 0).trans rfl
  clear h1 h2
  by_cases h0 : i < 0
  · go_enter Tryz.func69, Tryz.ntmps69
    go_wp2
    go_ret
    exact ⟨rfl, rfl⟩
  · have h4 : (x.length : Int) ≤ i := by omega
    go_enter Tryz.func69, Tryz.ntmps69
    go_wp2
    go_ret
    exact ⟨rfl, rfl⟩

set_option maxHeartbeats 400000 in
theorem bellRing_in (B : Nat) (x : List Bool) (i : Nat) (hi : i < x.length) (w : World) (h : BAt w B x) : Calls Tryz.prog 69 #[.pointer (some ⟨B, 0, none⟩), .int .i64 i] w fun e w' =>
    e = .returned (.int .i64 0) ∧ ButS [B] w w' ∧ Kp (BAt w' B (ringB x i)) := by
  obtain ⟨b, h1, h2, h3⟩ := h
  have hbl := bits_lt h2 h3
  have c0 : w.cell? ⟨B, 0, none⟩ = some (.int .i64 x.length) := (cell_blk h1 0).trans rfl
  have c1 : w.cell? ⟨B, 1, none⟩ = some (.int .u64 b) := (cell_blk h1 1).trans rfl
  have f1 : w.frozen? ⟨B, 1, none⟩ = false := frozen_blk h1 1
  have H1 := Kp.mk h1
  have H2 := Kp.mk h2
  clear h1 h2
  go_enter Tryz.func69, Tryz.ntmps69
  go_wp2
  go_ret
  rw [or_bit b i hbl (by omega)]
  refine ⟨rfl, (ButS.refl _ _).set (by simp) _, ⟨_, (blk_set H1.out 1 _).trans (by rw [ringB_len]; rfl), ringB_bits x i hi b H2.out, by rw [ringB_len]; exact h3⟩⟩

theorem bellRing_any (B : Nat) (x : List Bool) (i : Int) (w : World) (h : BAt w B x) : Calls Tryz.prog 69 #[.pointer (some ⟨B, 0, none⟩), .int .i64 i] w fun e w' =>
    e = .returned (.int .i64 (if 0 ≤ i ∧ i < x.length then 0 else 7)) ∧ ButS [B] w w' ∧ Kp (BAt w' B (ringB x i)) := by
  by_cases hi : 0 ≤ i ∧ i < x.length
  · obtain ⟨j, rfl⟩ := Int.eq_ofNat_of_zero_le hi.1
    rw [if_pos hi]
    exact bellRing_in B x j (by omega) w h
  · rw [if_neg hi]
    refine (bellRing_out B x i (by omega) w h).mono ?_
    rintro e w1 ⟨rfl, rfl⟩
    rw [ringB_out x i (by omega)]
    exact ⟨rfl, ButS.refl _ _, ⟨h⟩⟩

/-- Whether a bell is there and pending. -/
def bellB (x : List Bool) (i : Int) : Bool := decide (0 ≤ i ∧ i < x.length) && x.getD i.toNat false
set_option maxHeartbeats 400000 in
theorem bellHas_in (B : Nat) (x : List Bool) (i : Nat) (hi : i < x.length) (w : World) (h : BAt w B x) : Calls Tryz.prog 42 #[.pointer (some ⟨B, 0, none⟩), .int .i64 i] w fun e w' => e = .returned (.bool (x.getD i false)) ∧ w' = w := by
  obtain ⟨b, h1, h2, h3⟩ := h
  have hbl := bits_lt h2 h3
  have c0 : w.cell? ⟨B, 0, none⟩ = some (.int .i64 x.length) := (cell_blk h1 0).trans rfl
  have c1 : w.cell? ⟨B, 1, none⟩ = some (.int .u64 b) := (cell_blk h1 1).trans rfl
  have H2 := Kp.mk h2
  have h0 : (0 : Int) ≤ (i : Int) := by omega
  clear h1 h2
  go_enter Tryz.func42, Tryz.ntmps42
  go_wp2
  go_ret
  refine ⟨ret_bool ?_, rfl⟩
  rw [← H2.out]
  exact has_bit b i hbl

set_option maxHeartbeats 400000 in
theorem bellHas_out (B : Nat) (x : List Bool) (i : Int) (hi : i < 0 ∨ (x.length : Int) ≤ i) (w : World) (h : BAt w B x) : Calls Tryz.prog 42 #[.pointer (some ⟨B, 0, none⟩), .int .i64 i] w fun e w' => e = .returned (.bool false) ∧ w' = w := by
  obtain ⟨b, h1, h2, h3⟩ := h
  have c0 : w.cell? ⟨B, 0, none⟩ = some (.int .i64 x.length) := (cell_blk h1 0).trans rfl
  clear h1 h2
  by_cases h0 : i < 0
  · go_enter Tryz.func42, Tryz.ntmps42
    go_wp2
    go_ret
    exact ⟨rfl, rfl⟩
  · have h4 : (x.length : Int) ≤ i := by omega
    have h5 : 0 ≤ i := by omega
    clear hi h0
    go_enter Tryz.func42, Tryz.ntmps42
    go_wp2
    go_ret
    exact ⟨rfl, rfl⟩
theorem bellHas_any (B : Nat) (x : List Bool) (i : Int) (w : World) (h : BAt w B x) : Calls Tryz.prog 42 #[.pointer (some ⟨B, 0, none⟩), .int .i64 i] w fun e w' => e = .returned (.bool (bellB x i)) ∧ w' = w := by
  by_cases hi : 0 ≤ i ∧ i < x.length
  · obtain ⟨j, rfl⟩ := Int.eq_ofNat_of_zero_le hi.1
    refine (bellHas_in B x j (by omega) w h).mono ?_
    rintro e w1 ⟨rfl, rfl⟩
    exact ⟨ret_bool (by simp [bellB, hi]), rfl⟩
  · refine (bellHas_out B x i (by omega) w h).mono ?_
    rintro e w1 ⟨rfl, rfl⟩
    exact ⟨ret_bool (by rw [bellB, decide_eq_false hi, Bool.false_and]), rfl⟩
end
section
open Go.RowKit
set_option linter.unusedSimpArgs false
set_option linter.unusedVariables false
def JQ (R : Act → World → Prop) : Exit → Act → World → Prop
  | .normal, a, w => R a w
  | _, _, _ => False
theorem ButB.callbut {B : Nat} {S S' : List Nat} {W0 W W1 : World} (h : ButB B S W0 W) (hb : ButS S' W W1) (hs : ∀ k, k ∈ S' → k ∈ S) : ButB B S W0 W1 :=
  ⟨h.le, hb.os.trans h.os, hb.tape.trans h.tape, hb.output.trans h.output, Nat.le_trans h.size hb.size, fun k hk hn => (hb.block k (by have := h.le; have := h.size; omega) fun hm => hn (hs k hm)).trans (h.block k hk hn)⟩
theorem JQ.mk {R : Act → World → Prop} {a : Act} {w : World} (h : R a w) : JQ R .normal a w := h
theorem JQ.region {P : Program} {c : Code} {Q : Exit → Act → World → Prop} {a : Act} {w : World} (R : Act → World → Prop) (h : c.wp P (JQ R) a w) (hq : ∀ a w, R a w → Q .normal a w) : c.wp P Q a w :=
  Code.wp_mono (fun e a w hj => by cases e <;> first | exact hq _ _ hj | exact hj.elim) h
theorem seq_join {P : Program} {r x y : Code} {Q : Exit → Act → World → Prop} {a : Act} {w : World} (R : Act → World → Prop) (h : ∀ K : Act → World → Prop, (∀ a w, x.wp P (JQ R) a w → K a w) → r.wp P (Exit.then K fun _ _ _ => False) a w) (hq : ∀ a w, R a w → y.wp P Q a w) : (Code.seq r (Code.seq x y)).wp P Q a w :=
  wp_seq (Code.wp_mono (fun e a w he => by
    cases e with
    | normal => exact wp_seq (Code.wp_mono (fun e a w hj => by cases e <;> first | exact hq _ _ hj | exact hj.elim) he)
    | _ => exact he.elim) (h _ fun _ _ h => h))
end
end Go.Proofs.YtmidcnfmphlneaaGreat

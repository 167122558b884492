/- Contracts of package defect: First, Accepts; the law's example; what is too great. -/
import Derived.Test.YtmidcnfmphlneaaDef7
namespace Go.Proofs.Ytmidcnfmphlneaa
open Go.RowKit
set_option linter.unusedSimpArgs false
set_option linter.unusedVariables false
open Go.Shelf
theorem results_cell {fn : Func} {p : Tmp} {ty : TypeId} (h : fn.results = #[.cell p ty]) (tmps : Array Value) (P : Program) (w : World) :
    (results fn tmps).run P w = ((asAddr (tmps.getD p undef)).run P w).andThen fun a w₁ => (loadVar ty a).run P w₁ := by
  simp only [results, h]
  simp
def firstB (C : Cfg) : Int := (defsB C).headD 0
attribute [local go_sem] Oper.semAt_some
/-- Between two rounds (there is none but the first): the result's box. -/
def firstI (nb n0 : Nat) (W0 : World) (pre : List Int) (W : World) : Prop := pre = [] ∧ W.heap[n0]? = some (.cells #[.int .i64 0] 3 (0, 0)) ∧ Below nb W0 W
def firstX (nb n0 : Nat) (W0 : World) (c : Code) (pre : List Int) (W : World) : Prop := c = .ret ∧ ∃ x, pre = [x] ∧ W.heap[n0]? = some (.cells #[.int .i64 x] 3 (0, 0)) ∧ Below nb W0 W
theorem firstI_calm {nb n0 : Nat} {W0 W W' : World} {pre : List Int} {B : Nat} {row : Option Nat} (h : firstI nb n0 W0 pre W) (hB : nb ≤ B) (h0 : nb ≤ W0.heap.size) (hg : W.grownBy W' row) (hr : ∀ r, row = some r → B ≤ r ∧ ∃ o : Obj, W.heap[r]? = some o ∧ o.isCells = false) : firstI nb n0 W0 pre W' := by
  obtain ⟨h1, h2, h5⟩ := h
  exact ⟨h1, blk_calm h2 hg hr, h5.grown hg (Nat.le_trans h0 h5.size) fun k e => Nat.le_trans hB (hr k e).1⟩
theorem firstX_calm {nb n0 : Nat} {W0 W W' : World} {c : Code} {pre : List Int} {B : Nat} {row : Option Nat} (h : firstX nb n0 W0 c pre W) (hB : nb ≤ B) (h0 : nb ≤ W0.heap.size) (hg : W.grownBy W' row) (hr : ∀ r, row = some r → B ≤ r ∧ ∃ o : Obj, W.heap[r]? = some o ∧ o.isCells = false) : firstX nb n0 W0 c pre W' := by
  obtain ⟨h1, x, h2, h3, h5⟩ := h
  exact ⟨h1, x, h2, blk_calm h3 hg hr, h5.grown hg (Nat.le_trans h0 h5.size) fun k e => Nat.le_trans hB (hr k e).1⟩

set_option maxRecDepth 100000 in
set_option maxHeartbeats 2000000 in
theorem first_any (cv : Value) (C : Cfg) (hsm : C.small) (w : World) (h : CfgAt w cv C) : Calls Try.prog 55 #[cv] w fun e w' => e = .returned (.int .i64 (firstB C)) ∧ Below w.heap.size w w' := by
  have HQ := Kp.mk h
  obtain ⟨ho, pa, pc, ca, cc, a0, c0, a1, c1, rfl, bp, bc, b0, b1, hp, hc, hw0, hw1⟩ := h
  clear hp hc hw0 hw1 ho
  obtain ⟨l, hl⟩ : ∃ l, defsB C = l := ⟨_, rfl⟩
  have HL := Kp.mk hl
  have HF : Kp (firstB C = l.headD 0) := ⟨by rw [firstB, hl]⟩
  clear hl
  refine (callsIn_wide (n := 3)).1 (callsIn_of_wp_marks Try.func55 rfl trivial (wpIn_wide.2 ?_) rfl)
  simp only [Try.ntmps55, List.size_toArray, List.length_cons, List.length_nil, Nat.reduceAdd, Nat.reduceSub, Array.replicate_succ, Array.replicate_zero, List.push_toArray, List.append_toArray, List.nil_append, List.cons_append]
  go_wp2_with fail
  refine (defAll_any _ _ _ _ _ _ _).mono ?_
  rintro e w4 ⟨rfl, rfl⟩
  go_wp2_with fail
  have HB3 : Kp (Below w.heap.size w (((w.alloc (.cells #[.slice pa C.parts.length pc, .slice ca C.chans.length cc, .int .i64 C.l0, .slice a0 C.w0.length c0, .int .i64 C.l1, .slice a1 C.w1.length c1] 31)).alloc (.cells #[.int .i64 0] 3)).alloc (.cells #[.slice pa C.parts.length pc, .slice ca C.chans.length cc, .int .i64 C.l0, .slice a0 C.w0.length c0, .int .i64 C.l1, .slice a1 C.w1.length c1] 31))) := ⟨(by repeat (first | exact Below.refl _ _ | apply below_al))⟩
  have k0 : Kp ((((w.alloc (.cells #[.slice pa C.parts.length pc, .slice ca C.chans.length cc, .int .i64 C.l0, .slice a0 C.w0.length c0, .int .i64 C.l1, .slice a1 C.w1.length c1] 31)).alloc (.cells #[.int .i64 0] 3)).alloc (.cells #[.slice pa C.parts.length pc, .slice ca C.chans.length cc, .int .i64 C.l0, .slice a0 C.w0.length c0, .int .i64 C.l1, .slice a1 C.w1.length c1] 31)).heap[w.heap.size + 1]? = some (.cells #[.int .i64 0] 3 (0, 0))) := ⟨blk_al (blk_at (w := (w.alloc (.cells #[.slice pa C.parts.length pc, .slice ca C.chans.length cc, .int .i64 C.l0, .slice a0 C.w0.length c0, .int .i64 C.l1, .slice a1 C.w1.length c1] 31))) (by simp) _) _⟩
  have k2 : Kp ((((w.alloc (.cells #[.slice pa C.parts.length pc, .slice ca C.chans.length cc, .int .i64 C.l0, .slice a0 C.w0.length c0, .int .i64 C.l1, .slice a1 C.w1.length c1] 31)).alloc (.cells #[.int .i64 0] 3)).alloc (.cells #[.slice pa C.parts.length pc, .slice ca C.chans.length cc, .int .i64 C.l0, .slice a0 C.w0.length c0, .int .i64 C.l1, .slice a1 C.w1.length c1] 31)).heap[w.heap.size + 1 + 1]? = some (.cells #[.slice pa C.parts.length pc, .slice ca C.chans.length cc, .int .i64 C.l0, .slice a0 C.w0.length c0, .int .i64 C.l1, .slice a1 C.w1.length c1] 31 (0, 0))) := ⟨blk_at (w := (w.alloc (.cells #[.slice pa C.parts.length pc, .slice ca C.chans.length cc, .int .i64 C.l0, .slice a0 C.w0.length c0, .int .i64 C.l1, .slice a1 C.w1.length c1] 31)).alloc (.cells #[.int .i64 0] 3)) (by simp) _⟩
  have HSZ : Kp ((((w.alloc (.cells #[.slice pa C.parts.length pc, .slice ca C.chans.length cc, .int .i64 C.l0, .slice a0 C.w0.length c0, .int .i64 C.l1, .slice a1 C.w1.length c1] 31)).alloc (.cells #[.int .i64 0] 3)).alloc (.cells #[.slice pa C.parts.length pc, .slice ca C.chans.length cc, .int .i64 C.l0, .slice a0 C.w0.length c0, .int .i64 C.l1, .slice a1 C.w1.length c1] 31)).heap.size = w.heap.size + 1 + 1 + 1) := ⟨by simp⟩
  generalize (((w.alloc (.cells #[.slice pa C.parts.length pc, .slice ca C.chans.length cc, .int .i64 C.l0, .slice a0 C.w0.length c0, .int .i64 C.l1, .slice a1 C.w1.length c1] 31)).alloc (.cells #[.int .i64 0] 3)).alloc (.cells #[.slice pa C.parts.length pc, .slice ca C.chans.length cc, .int .i64 C.l0, .slice a0 C.w0.length c0, .int .i64 C.l1, .slice a1 C.w1.length c1] 31)) = W0 at HB3 k0 k2 HSZ ⊢
  have HST := Kp.mk (defAll_stops 2 (by omega) (w.heap.size + 1 + 1) C hsm _ w W0 HQ.out HB3.out k2.out)
  rw [HL.out] at HST
  obtain ⟨nn, hnn⟩ : ∃ nn, w.heap.size = nn := ⟨_, rfl⟩
  have HNN := Kp.mk hnn
  rw [hnn] at k0 k2 HSZ HB3 HST ⊢
  have hW0 : nn + 1 + 1 + 1 ≤ W0.heap.size := Nat.le_of_eq HSZ.out.symm
  clear hnn
  refine wp_range (fun t x => (t.setIfInBounds 6 (.int .i64 x)).setIfInBounds 3 (.int .i64 x)) rfl (enters_of Try.func61 (by kernel_rfl) rfl)
    HST.out KeepU.trans (KeepU.put (by omega)) (fun _ => rfl)
    (firstI nn (nn + 1) w) (firstX nn (nn + 1) w)
    (fun s A B row hs hg hr => firstI_calm hs (B := W0.heap.size) (by omega) (Nat.le_of_eq HNN.out.symm) hg hr)
    (fun c s A B row hs hg hr => firstX_calm hs (B := W0.heap.size) (by omega) (Nat.le_of_eq HNN.out.symm) hg hr)
    ⟨rfl, k0.out, HB3.out⟩ ?assign ?body ?done ?stop
  case assign =>
    intro l x W K hK
    gi_wp2
    exact hK
  case body =>
    rintro l pre x W ⟨rfl, g0, hB⟩ hlt
    have c0 : W.cell? ⟨nn + 1, 0, none⟩ = some (.int .i64 0) := (cell_blk g0 0).trans rfl
    have f0 : W.frozen? ⟨nn + 1, 0, none⟩ = false := frozen_blk g0 0
    have G0 := Kp.mk g0
    have HB := Kp.mk hB
    clear g0 hB
    dsimp only
    gi_wp2
    refine ⟨(Rnd.set (T := 31) (n₀ := nn) (B := W0.heap.size) G0.out (by decide) (by omega) 0 (.int .i64 x)).2, rfl, x, rfl, (blk_set G0.out 0 _).trans rfl, HB.out.setCell (by simp) _⟩
  case done =>
    rintro D ys W hD rfl ⟨hys, g0, hB⟩ hK
    have HYS := Kp.mk hys
    clear hys
    have c0 : W.cell? ⟨nn + 1, 0, none⟩ = some (.int .i64 0) := (cell_blk g0 0).trans rfl
    have f0 : W.frozen? ⟨nn + 1, 0, none⟩ = false := frozen_blk g0 0
    go_wp2
    have G0 := blk_set g0 0 (.int .i64 0)
    have hne : D ≠ nn + 1 := by omega
    have hK2 : (W.setCell ⟨nn + 1, 0, none⟩ (.int .i64 0)).heap[D]? = some (.deferred (some [])) := blk_set_ne hK (p := ⟨nn + 1, 0, none⟩) hne _
    have c1 : ((W.setCell ⟨nn + 1, 0, none⟩ (.int .i64 0)).putObj D (.deferred none)).cell? ⟨nn + 1, 0, none⟩ = some (.int .i64 0) := (World.cell?_of_block (World.putObj_heap_other (by show nn + 1 ≠ D; omega))).trans ((cell_blk G0 0).trans rfl)
    have hx : firstB C = 0 := by rw [HF.out, HYS.out]; rfl
    have hB2 : Below nn w (W.setCell ⟨nn + 1, 0, none⟩ (.int .i64 0)) := hB.setCell (by simp) _
    refine ⟨by simp, .inl ⟨_, _, rfl, run_takeDeferred hK2, ?_⟩⟩
    refine ⟨_, (show (results Try.f55 _).run Try.prog ((W.setCell ⟨nn + 1, 0, none⟩ (.int .i64 0)).putObj D (.deferred none)) = .ok (.int .i64 0) _ from by rw [results_cell rfl]; simp [go_sem, c1]), by rw [hx], ?_⟩
    rw [HNN.out]
    exact hB2.grown (grownBy_putObj' _ D _) (by have := hB2.size; have := HNN.out; omega) (fun k e => by cases e; omega)
  case stop =>
    rintro D c pre W hD hpre ⟨rfl, x, rfl, g0, hB⟩ hK
    have c0 : W.cell? ⟨nn + 1, 0, none⟩ = some (.int .i64 x) := (cell_blk g0 0).trans rfl
    go_wp2
    have c1 : (W.putObj D (.deferred none)).cell? ⟨nn + 1, 0, none⟩ = some (.int .i64 x) := (World.cell?_of_block (World.putObj_heap_other (by have := HSZ.out; show nn + 1 ≠ D; omega))).trans c0
    have hx : firstB C = x := by
      rw [HF.out]
      obtain ⟨r, hr⟩ := hpre
      rw [← hr]; rfl
    refine ⟨by simp, .inl ⟨_, _, rfl, run_takeDeferred hK, ?_⟩⟩
    refine ⟨_, (show (results Try.f55 _).run Try.prog (W.putObj D (.deferred none)) = .ok (.int .i64 x) (W.putObj D (.deferred none)) from by rw [results_cell rfl]; simp [go_sem, c1]), by rw [hx], ?_⟩
    · rw [HNN.out]
      exact hB.grown (grownBy_putObj' W D _) (by have := hB.size; have := HNN.out; omega) (fun k e => by cases e; omega)

set_option maxHeartbeats 400000 in
theorem accepts_any (cv : Value) (C : Cfg) (hsm : C.small) (w : World) (h : CfgAt w cv C) : Calls Try.prog 45 #[cv] w fun e w' => e = .returned (.bool (firstB C == 0)) ∧ Below w.heap.size w w' := by
  have HC := Kp.mk h
  obtain ⟨ho, pa, pc, ca, cc, a0, c0, a1, c1, rfl, bp, bc, b0, b1, hp, hc, hw0, hw1⟩ := h
  go_enter Try.func45, Try.ntmps45
  go_wp2_with fail
  refine (first_any _ C hsm _ (HC.out.below (by repeat (first | exact Below.refl _ _ | apply below_al)))).mono ?_
  rintro e w1 ⟨rfl, hb1⟩
  go_wp2
  go_ret
  exact ⟨rfl, below_call (by repeat (first | exact Below.refl _ _ | apply below_al)) hb1⟩
def cfg0 : Cfg := ⟨[], [], 0, [], 0, []⟩
theorem cfg0_at (w : World) : CfgAt w (.agg #[.slice none 0 0, .slice none 0 0, .int .i64 0, .slice none 0 0, .int .i64 0, .slice none 0 0]) cfg0 :=
  ⟨⟨by simp [cfg0], by simp [cfg0], rfl, rfl, by simp [cfg0], by simp [cfg0]⟩, none, 0, none, 0, none, 0, none, 0, rfl, ⟨Nat.le_refl _, by decide⟩, ⟨Nat.le_refl _, by decide⟩, ⟨Nat.le_refl _, by decide⟩, ⟨Nat.le_refl _, by decide⟩,
    ⟨rfl, .inl ⟨⟨none, 0, rfl, by decide⟩, rfl⟩⟩, ⟨rfl, .inl ⟨⟨none, 0, rfl, by decide⟩, rfl⟩⟩, ⟨rfl, .inl ⟨⟨none, 0, rfl, by decide⟩, rfl⟩⟩, ⟨rfl, .inl ⟨⟨none, 0, rfl, by decide⟩, rfl⟩⟩⟩
theorem cfg0_defs : (defsB cfg0).take (99 : Int).toNat = [1, 12] := by decide

theorem small_of_great {C : Cfg} (h : C.great = false) : C.small := by
  have h := of_decide_eq_false h
  exact ⟨by omega, by omega, by omega, by omega⟩
end Go.Proofs.Ytmidcnfmphlneaa

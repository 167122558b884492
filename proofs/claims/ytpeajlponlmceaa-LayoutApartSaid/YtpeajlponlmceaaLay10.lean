/- What spans are told, as far as so many. -/
import Derived.Test.YtpeajlponlmceaaLay9
namespace Go.Proofs.Ytpeajlponlmceaa
open Go.RowKit
set_option linter.unusedSimpArgs false
set_option linter.unusedVariables false
open Go.Shelf
attribute [local go_sem] Oper.semAt_some
theorem cells_new_at (w : World) (n : Nat) (hn : w.heap.size = n) (vs : List Value) (t : TypeId) (j : Nat) (u : Value) (h : vs[j]? = some u) : (w.alloc (.cells vs.toArray t)).cell? ((⟨n, 0, none⟩ : Addr).add j) = some u := by
  rw [add_at, cell_blk (blk_at hn _), Nat.zero_add, List.getElem?_toArray]
  exact h

/-- A loop over an iterator in a plain walk, whose assignment lays blocks. -/
theorem wp_rangeH {P : Program} {α : Type} {g : Operand} {ps : Array Tmp} {assign body : Code} {Q : Exit → Act → World → Prop} {a : Act} {w : World} {gf : Nat} {lb : Array Value}
    (hg : a.eval g = .func (.func gf) #[] lb) (eg : ∀ args w, (callFunc gf args).run P w = .ok (.enter gf args) w)
    {encs : α → Array Value} {Kp : World → World → Prop} {S Sp : List α → Prop} {N : Nat} (hseq : SeqStopsK Fence.wide 2 P gf lb encs Kp S Sp N w)
    (hKt : ∀ {A B C : World}, Kp A B → Kp B C → Kp A C) (hKb : ∀ (W : World) (l : Nat) (o o' : Obj), w.heap.size ≤ l → W.heap[l]? = some o → o.isCells = false → o.isWalk = false → Kp W (W.putObj l o')) (hps : ∀ x, (encs x).size = ps.size)
    (I : List α → World → Prop) (Ix : Code → List α → World → Prop) (hI : OwnFrom w.heap.size I) (hIx : ∀ c, OwnFrom w.heap.size (Ix c)) (h0 : I [] w) (Ax : α → Act → World → Prop) (hAx : ∀ x a', OwnFrom w.heap.size (fun (_ : Unit) W => Ax x a' W))
    (hassign : ∀ (l : Nat) (pre : List α) (x : α) (W : World) (K : Act → World → Prop), I pre W → (∀ a' W', KeepsFrom w.heap.size W W' → Kp W W' → I pre W' → Ax x a' W' → K a' W') →
      assign.wpIn (Fence.wide.inRound l) 1 P (Exit.then K (fun _ _ _ => False)) { tmps := (ps.zip (encs x)).foldl (fun t (p, v) => t.setIfInBounds p v) a.tmps, defers := [] } W)
    (hbody : ∀ (l : Nat) (pre : List α) (x : α) (a' : Act) (W : World), I pre W → Ax x a' W → pre.length < N → body.wpIn (Fence.wide.inRound l) 1 P (ownPostG w.heap.size Kp I Ix (pre ++ [x]) W) a' W)
    (hdone : ∀ (D : Nat) (xs : List α) (W : World), w.heap.size ≤ D → S xs → I xs W → W.heap[D]? = some (.deferred (some [])) → Q .normal { a with defers := { target := .collected D, args := #[] } :: a.defers } W)
    (hstop : ∀ (D : Nat) (c : Code) (pre : List α) (W : World), w.heap.size ≤ D → Sp pre → Ix c pre W → W.heap[D]? = some (.deferred (some [])) → c.wp P Q { a with defers := { target := .collected D, args := #[] } :: a.defers } W) :
    (Code.rangeFunc g ps assign body).wp P Q a w :=
  (wpIn_wide (n := 3)).1 (wpIn_rangeFunc_ownH rfl (by omega) hg trivial eg hseq (fun h k => hKt h k) hKb (Below.refl _ _) hps I Ix hI hIx h0 Ax hAx hassign (fun l pre x a' W _ _ hi ha hl => hbody l pre x a' W hi ha hl) hdone fun D c pre W h1 h2 h3 h4 => wpIn_wide.2 (hstop D c pre W h1 h2 h3 h4))

/-- Between two rounds: what the bound's box, the row's box and the row hold. -/
def told8cI (nn : Nat) (W0 : World) (most : Int) (pre : List (Int × Int)) (W : World) : Prop :=
  ∃ v, W.heap[nn + 1]? = some (.cells #[.int .i64 most] 3 (0, 0)) ∧ W.heap[nn + 1 + 1]? = some (.cells #[v] 53 (0, 0)) ∧ W.ownsRow (nn + 1 + 1 + 1) 49 2 v pre.length (pre.flatMap spanC) ∧ pre.length ≤ most.toNat ∧ Below nn W0 W
def told8cX (nn : Nat) (W0 : World) (most : Int) (c : Code) (pre : List (Int × Int)) (W : World) : Prop := c = .exit 0 ∧ ∃ pre0 x, pre = pre0 ++ [x] ∧ told8cI nn W0 most pre0 W ∧ most ≤ (pre0.length : Int)
theorem told8cI_calm {nn : Nat} {W0 W W' : World} {most : Int} {pre : List (Int × Int)} {B : Nat} {row : Option Nat} (h : told8cI nn W0 most pre W) (hB : nn ≤ B) (h0 : nn ≤ W0.heap.size) (hg : W.grownBy W' row) (hr : ∀ r, row = some r → B ≤ r ∧ ∃ o : Obj, W.heap[r]? = some o ∧ o.isCells = false) : told8cI nn W0 most pre W' := by
  obtain ⟨v, h1, h2, h3, h4, h5⟩ := h
  exact ⟨v, blk_calm h1 hg hr, blk_calm h2 hg hr, own_calm h3 hg hr, h4, h5.grown hg (Nat.le_trans h0 h5.size) fun k e => Nat.le_trans hB (hr k e).1⟩

set_option maxRecDepth 100000 in
set_option maxHeartbeats 4000000 in
theorem told8c_any (most : Int) (C : Cfg) (hsm : C.small) (pa ca a0 a1 : Option Addr) (pc cc c0 c1 : Nat) (w : World) (h : CfgAt w (.agg #[.slice pa C.parts.length pc, .slice ca C.chans.length cc, .int .i64 C.l0, .slice a0 C.w0.length c0, .int .i64 C.l1, .slice a1 C.w1.length c1]) C) :
    Calls Try.prog 28 #[.agg #[.slice pa C.parts.length pc, .slice ca C.chans.length cc, .int .i64 C.l0, .slice a0 C.w0.length c0, .int .i64 C.l1, .slice a1 C.w1.length c1], .int .i64 most] w fun e w' => ∃ v, e = .returned v ∧ w'.ownsRow w.heap.size 49 2 v ((planL C).take most.toNat).length (((planL C).take most.toNat).flatMap spanC) ∧ Below w.heap.size w w' := by
  obtain ⟨i0, hi, hz0, hz1, hz2⟩ := info_parts Try.infoSpan
  have HQ := Kp.mk h
  clear h
  obtain ⟨l, hl⟩ : ∃ l, planL C = l := ⟨_, rfl⟩
  have HL := Kp.mk hl
  have HN : Kp (l.length ≤ 5000) := ⟨hl ▸ Nat.le_trans (planL_le C) (by decide)⟩
  clear hl
  have qF := fun (w : World) fn fi ca => run_neq_func_nil (P := Try.prog) w 76 fn fi ca Try.underlying76
  refine (callsIn_wide (n := 3)).1 (callsIn_of_wp_marks Try.func28 rfl trivial (wpIn_wide.2 ?_) rfl)
  simp only [Try.ntmps28, List.size_toArray, List.length_cons, List.length_nil, Nat.reduceAdd, Nat.reduceSub, Array.replicate_succ, Array.replicate_zero, List.push_toArray, List.append_toArray, List.nil_append, List.cons_append]
  go_wp2_with fail
  refine (layAll_any _ _ _ _ _ _ _).mono ?_
  rintro e w4 ⟨rfl, rfl⟩
  go_wp2_with fail
  clear qF
  have HB3 : Kp (Below w.heap.size w ((((w.alloc (.cells #[.slice pa C.parts.length pc, .slice ca C.chans.length cc, .int .i64 C.l0, .slice a0 C.w0.length c0, .int .i64 C.l1, .slice a1 C.w1.length c1] 29)).alloc (.cells #[.int .i64 most] 3)).alloc (.cells #[.slice none 0 0] 53)).alloc (.cells #[.slice pa C.parts.length pc, .slice ca C.chans.length cc, .int .i64 C.l0, .slice a0 C.w0.length c0, .int .i64 C.l1, .slice a1 C.w1.length c1] 29))) := ⟨below_al (below_al (below_al (below_al (Below.refl _ _) _) _) _) _⟩
  have k0 : Kp (((((w.alloc (.cells #[.slice pa C.parts.length pc, .slice ca C.chans.length cc, .int .i64 C.l0, .slice a0 C.w0.length c0, .int .i64 C.l1, .slice a1 C.w1.length c1] 29)).alloc (.cells #[.int .i64 most] 3)).alloc (.cells #[.slice none 0 0] 53)).alloc (.cells #[.slice pa C.parts.length pc, .slice ca C.chans.length cc, .int .i64 C.l0, .slice a0 C.w0.length c0, .int .i64 C.l1, .slice a1 C.w1.length c1] 29)).heap[w.heap.size + 1]? = some (.cells #[.int .i64 most] 3 (0, 0))) := ⟨blk_al (blk_al (blk_at (w := (w.alloc (.cells #[.slice pa C.parts.length pc, .slice ca C.chans.length cc, .int .i64 C.l0, .slice a0 C.w0.length c0, .int .i64 C.l1, .slice a1 C.w1.length c1] 29))) (by simp) _) _) _⟩
  have k1 : Kp (((((w.alloc (.cells #[.slice pa C.parts.length pc, .slice ca C.chans.length cc, .int .i64 C.l0, .slice a0 C.w0.length c0, .int .i64 C.l1, .slice a1 C.w1.length c1] 29)).alloc (.cells #[.int .i64 most] 3)).alloc (.cells #[.slice none 0 0] 53)).alloc (.cells #[.slice pa C.parts.length pc, .slice ca C.chans.length cc, .int .i64 C.l0, .slice a0 C.w0.length c0, .int .i64 C.l1, .slice a1 C.w1.length c1] 29)).heap[w.heap.size + 1 + 1]? = some (.cells #[.slice none 0 0] 53 (0, 0))) := ⟨blk_al (blk_at (w := ((w.alloc (.cells #[.slice pa C.parts.length pc, .slice ca C.chans.length cc, .int .i64 C.l0, .slice a0 C.w0.length c0, .int .i64 C.l1, .slice a1 C.w1.length c1] 29)).alloc (.cells #[.int .i64 most] 3))) (by simp) _) _⟩
  have k2 : Kp (((((w.alloc (.cells #[.slice pa C.parts.length pc, .slice ca C.chans.length cc, .int .i64 C.l0, .slice a0 C.w0.length c0, .int .i64 C.l1, .slice a1 C.w1.length c1] 29)).alloc (.cells #[.int .i64 most] 3)).alloc (.cells #[.slice none 0 0] 53)).alloc (.cells #[.slice pa C.parts.length pc, .slice ca C.chans.length cc, .int .i64 C.l0, .slice a0 C.w0.length c0, .int .i64 C.l1, .slice a1 C.w1.length c1] 29)).heap[w.heap.size + 1 + 1 + 1]? = some (.cells #[.slice pa C.parts.length pc, .slice ca C.chans.length cc, .int .i64 C.l0, .slice a0 C.w0.length c0, .int .i64 C.l1, .slice a1 C.w1.length c1] 29 (0, 0))) := ⟨blk_at (w := (((w.alloc (.cells #[.slice pa C.parts.length pc, .slice ca C.chans.length cc, .int .i64 C.l0, .slice a0 C.w0.length c0, .int .i64 C.l1, .slice a1 C.w1.length c1] 29)).alloc (.cells #[.int .i64 most] 3)).alloc (.cells #[.slice none 0 0] 53))) (by simp) _⟩
  have HSZ : Kp (((((w.alloc (.cells #[.slice pa C.parts.length pc, .slice ca C.chans.length cc, .int .i64 C.l0, .slice a0 C.w0.length c0, .int .i64 C.l1, .slice a1 C.w1.length c1] 29)).alloc (.cells #[.int .i64 most] 3)).alloc (.cells #[.slice none 0 0] 53)).alloc (.cells #[.slice pa C.parts.length pc, .slice ca C.chans.length cc, .int .i64 C.l0, .slice a0 C.w0.length c0, .int .i64 C.l1, .slice a1 C.w1.length c1] 29)).heap.size = w.heap.size + 1 + 1 + 1 + 1) := ⟨by simp⟩
  generalize ((((w.alloc (.cells #[.slice pa C.parts.length pc, .slice ca C.chans.length cc, .int .i64 C.l0, .slice a0 C.w0.length c0, .int .i64 C.l1, .slice a1 C.w1.length c1] 29)).alloc (.cells #[.int .i64 most] 3)).alloc (.cells #[.slice none 0 0] 53)).alloc (.cells #[.slice pa C.parts.length pc, .slice ca C.chans.length cc, .int .i64 C.l0, .slice a0 C.w0.length c0, .int .i64 C.l1, .slice a1 C.w1.length c1] 29)) = W0 at HB3 k0 k1 k2 HSZ ⊢
  have HST := Kp.mk (layAll_stops 2 (by omega) (w.heap.size + 1 + 1 + 1) (w.heap.size + 1 + 1) C hsm _ w W0 HQ.out HB3.out k2.out (blk_lt k1.out) (ptrB_cells k1.out))
  rw [HL.out] at HST
  obtain ⟨nn, hnn⟩ : ∃ nn, w.heap.size = nn := ⟨_, rfl⟩
  have HNN := Kp.mk hnn
  rw [hnn] at k0 k1 k2 HSZ HB3 HST ⊢
  have hW0 : nn + 1 + 1 + 1 + 1 ≤ W0.heap.size := Nat.le_of_eq HSZ.out.symm
  clear hnn
  refine wp_rangeH rfl (enters_of Try.func91 (by kernel_rfl) rfl)
    HST.out KeepR.trans (KeepR.put (by omega) (by omega)) (fun _ => rfl)
    (told8cI nn w most) (told8cX nn w most)
    (fun s A B row hs hg hr => told8cI_calm hs (B := W0.heap.size) (by omega) (Nat.le_of_eq HNN.out.symm) hg hr)
    (fun c s A B row hs hg hr => ⟨hs.1, hs.2.imp fun _ h => h.imp fun _ h => ⟨h.1, told8cI_calm h.2.1 (B := W0.heap.size) (by omega) (Nat.le_of_eq HNN.out.symm) hg hr, h.2.2⟩⟩)
    ⟨_, k0.out, k1.out, World.ownsRow_nil _ _ _ _, Nat.zero_le _, HB3.out⟩
    (fun x a' W => ∃ b, a' = { tmps := ((#[.agg #[.slice pa C.parts.length pc, .slice ca C.chans.length cc, .int .i64 C.l0, .slice a0 C.w0.length c0, .int .i64 C.l1, .slice a1 C.w1.length c1], .int .i64 most, .pointer (some ⟨nn, 0, none⟩), .pointer (some ⟨nn + 1, 0, none⟩), .slice none 0 0, .pointer (some ⟨nn + 1 + 1, 0, none⟩), .func (.func 91) #[] #[.pointer (some ⟨nn + 1 + 1 + 1, 0, none⟩)], undef, .agg #[.slice pa C.parts.length pc, .slice ca C.chans.length cc, .int .i64 C.l0, .slice a0 C.w0.length c0, .int .i64 C.l1, .slice a1 C.w1.length c1], .func (.func 91) #[] #[.pointer (some ⟨nn + 1 + 1 + 1, 0, none⟩)], .func (.func 91) #[] #[.pointer (some ⟨nn + 1 + 1 + 1, 0, none⟩)], .bool true, .func (.func 91) #[] #[.pointer (some ⟨nn + 1 + 1 + 1, 0, none⟩)], undef, undef, undef, undef, undef, undef, undef, undef, undef, undef] : Array Value).setIfInBounds 13 (.agg #[.int .i64 x.1, .int .i64 x.2])).setIfInBounds 7 (.pointer (some ⟨b, 0, none⟩)), defers := [] } ∧ W.heap[b]? = some (.cells #[.int .i64 x.1, .int .i64 x.2] 49 (0, 0)))
    (fun x a' _ A B row hs hg hr => hs.imp fun b h => ⟨h.1, blk_calm h.2 hg hr⟩) ?assign ?body ?done ?stop
  case assign =>
    intro l pre x W K hi0 hK
    have hI0 := Kp.mk hi0
    have hsz : nn + 1 + 1 + 1 ≤ W.heap.size := by
      obtain ⟨_, _, g1, _⟩ := hi0
      exact blk_lt g1
    clear hi0
    gi_wp2_with fail
    refine hK _ _ ?_ ?_ ?_ ⟨W.heap.size, rfl, blk_new _ _⟩
    · exact (Rnd.al (T := 3) (n₀ := nn) (by omega) _).2
    · exact KeepR.of_below (by omega) (by omega) (below_al (Below.refl _ _) _)
    · exact told8cI_calm hI0.out (B := nn) (Nat.le_refl _) (Nat.le_of_eq HNN.out.symm) (World.grownBy_alloc _ _ none) (fun r e => by cases e)
  case body =>
    rintro l pre x a' W ⟨v, g0, g1, hown, hle, hB⟩ ⟨b, rfl, gb⟩ hlt
    obtain ⟨av, c', rfl, hc1, hc2⟩ := (RowAt.of_own hown).shape
    have c0 : W.cell? ⟨nn + 1, 0, none⟩ = some (.int .i64 most) := (cell_blk g0 0).trans rfl
    have c1 : W.cell? ⟨nn + 1 + 1, 0, none⟩ = some (.slice av pre.length c') := (cell_blk g1 0).trans rfl
    have b0 : W.cell? ⟨b, 0, none⟩ = some (.int .i64 x.1) := (cell_blk gb 0).trans rfl
    have b1 : W.cell? ⟨b, 1, none⟩ = some (.int .i64 x.2) := (cell_blk gb 1).trans rfl
    have G0 := Kp.mk g0
    have G1 := Kp.mk g1
    have HB := Kp.mk hB
    have f1 : W.frozen? ⟨nn + 1 + 1, 0, none⟩ = false := frozen_blk g1 0
    have l1 := blk_lt g1
    have lb := blk_lt gb
    clear g0 g1 gb hB
    try dsimp only
    try simp only [List.setIfInBounds_toArray, List.set_cons_zero, List.set_cons_succ]
    by_cases hm : most ≤ (pre.length : Int)
    · gi_wp2
      exact ⟨KeepsFrom.refl _ _, rfl, pre, _, rfl, ⟨_, G0.out, G1.out, hown, hle, HB.out⟩, hm⟩
    · gi_wp2_with (gi_at_builtin; refine wpListIn_append_own_at _ rfl _ _ 53 rfl (nn + 1 + 1 + 1) 49 i0 (.agg #[.int .i64 0, .int .i64 0]) 2 16 Try.underlying53 hi hz0 hz1 hz2 rfl (by decide) _ _ _ rfl (hown.alloc _) ⟨W.heap.size, 0, none⟩ 1 1 (spanC x) rfl rfl (cells_new_at W W.heap.size rfl (spanC x) 49) (by simp [spanC, Value.oneCell']) (by have := HN.out; unfold maxLen; omega) (by have := HN.out; omega) (by simp; omega) ?_; intro v' w1 hown' hgrow hat; obtain ⟨g', cap', rfl⟩ := ownsRow_succ hown'; have e1 := blk_grown (blk_al G1.out _) (b := nn + 1 + 1) (by omega) (hown.alloc _) hgrow; have d1 : w1.cell? ⟨nn + 1 + 1, 0, none⟩ = some (.slice av pre.length c') := (cell_blk e1 0).trans rfl; have d2 : w1.frozen? ⟨nn + 1 + 1, 0, none⟩ = false := frozen_blk e1 0)
      have e0 := blk_grown (blk_al G0.out _) (b := nn + 1) (by omega) (hown.alloc _) hgrow
      have hR : Rnd 3 nn W0.heap.size W (w1.setCell ⟨nn + 1 + 1, 0, none⟩ (.slice (some ⟨g', 0, none⟩) (pre.length + 1) cap')) :=
        ((Rnd.al (by omega) _).trans (Rnd.own (hown.alloc _) (by decide) (by omega) (by simp; omega) hgrow)).trans (Rnd.set (T := 3) (n₀ := nn) (B := W0.heap.size) e1 (by decide) (by omega) 0 (.slice (some ⟨g', 0, none⟩) (pre.length + 1) cap'))
      refine ⟨kf_mono hR.2 (by omega), KeepR.app G1.out e1 hown (by omega) (by omega) (by omega) hgrow hat (by decide), _, blk_set_ne e0 (by simp) _, (blk_set e1 0 _).trans rfl, own_set_ne (by simpa [List.flatMap_append] using hown') (by simp) _, by simp; omega, ?_⟩
      exact (below_own2 (HB.out.alloc (by omega) _) (by simp; omega) (by omega) (hown.alloc _) hgrow).setCell (by simp; omega) _
  case done =>
    rintro D ys W hD rfl ⟨v, g0, g1, hown, hle, hB⟩ hK
    have c1 : W.cell? ⟨nn + 1 + 1, 0, none⟩ = some v := (cell_blk g1 0).trans rfl
    obtain ⟨av, c', rfl, hc1, hc2⟩ := (RowAt.of_own hown).shape
    go_wp2
    refine ⟨by simp, .inl ⟨_, _, rfl, run_takeDeferred hK, ?_⟩⟩
    refine ⟨_, results_tmp rfl _ _ _, _, rfl, ?_, ?_⟩
    · rw [HL.out, List.take_of_length_le hle]
      exact own_base (ownsRow_putObj hown _ hK rfl) (by have := HNN.out; omega)
    · rw [HNN.out]
      exact hB.grown (grownBy_putObj' W D _) (by have := hB.size; have := HNN.out; omega) (fun k e => by cases e; omega)
  case stop =>
    rintro D c pre W hD hpre ⟨rfl, pre0, x, rfl, ⟨v, g0, g1, hown, hle, hB⟩, hmost⟩ hK
    have c1 : W.cell? ⟨nn + 1 + 1, 0, none⟩ = some v := (cell_blk g1 0).trans rfl
    obtain ⟨av, c', rfl, hc1, hc2⟩ := (RowAt.of_own hown).shape
    have hp : l.take most.toNat = pre0 := by
      have h1 : pre0 <+: l := List.IsPrefix.trans (List.prefix_append _ _) hpre
      have h2 : most.toNat = pre0.length := by omega
      rw [h2]
      exact (List.prefix_iff_eq_take.1 h1).symm
    go_wp2
    refine ⟨by simp, .inl ⟨_, _, rfl, run_takeDeferred hK, ?_⟩⟩
    refine ⟨_, results_tmp rfl _ _ _, _, rfl, ?_, ?_⟩
    · rw [HL.out, hp]
      exact own_base (ownsRow_putObj hown _ hK rfl) (by have := HNN.out; omega)
    · rw [HNN.out]
      exact hB.grown (grownBy_putObj' W D _) (by have := hB.size; have := HNN.out; omega) (fun k e => by cases e; omega)

theorem told8_any (most : Int) (cv : Value) (C : Cfg) (hsm : C.small) (w : World) (h : CfgAt w cv C) : Calls Try.prog 28 #[cv, .int .i64 most] w fun e w' => ∃ v, e = .returned v ∧ w'.ownsRow w.heap.size 49 2 v ((planL C).take most.toNat).length (((planL C).take most.toNat).flatMap spanC) ∧ Below w.heap.size w w' := by
  have h' := h
  obtain ⟨ho, pa, pc, ca, cc, a0, c0, a1, c1, rfl, bp, bc, b0, b1, hp, hc, hw0, hw1⟩ := h
  exact told8c_any most C hsm pa ca a0 a1 pc cc c0 c1 w h'
end Go.Proofs.Ytpeajlponlmceaa

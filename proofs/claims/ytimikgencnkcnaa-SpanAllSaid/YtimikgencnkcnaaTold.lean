/- The contracts of span.All and of the statements' own 'told': the addresses of spans as a row, as far as so many. -/
import Derived.Test.YtimikgencnkcnaaSpanIter
namespace Go.Proofs.Ytimikgencnkcnaa
open Go.RowKit
set_option linter.unusedSimpArgs false
set_option linter.unusedVariables false
open Go.Shelf
attribute [local go_sem] Oper.semAt_some

theorem all_stops (N : Nat) (hn1 : 1 ≤ N) (Bn n₀ n cap : Nat) (a : Option Addr) (F S : Nat → Int) (w : World) (hn : n ≤ maxLen) (hn₀ : n₀ ≤ w.heap.size) (hBn : w.heap[Bn]? = some (.cells #[.slice a n cap] 32 (0, 0)))
    (hL : n = 0 ∨ ∃ b o, a = some ⟨b, o, none⟩ ∧ b < n₀ ∧ ∀ i, i < n → w.cell? ⟨b, o + i * 2, none⟩ = some (.int .i64 (F i)) ∧ w.cell? ⟨b, o + i * 2 + 1, none⟩ = some (.int .i64 (S i))) :
    SeqStopsK Fence.wide N Try.prog 39 #[.pointer (some ⟨Bn, 0, none⟩)] (fun x : Int => #[Value.int .i64 x]) (KeepT 23 n₀) (fun ys => ys = allL F S n) (fun pre => pre <+: allL F S n) (allL F S n).length w := fun l J Jx W hW hJ hJx hY h0 =>
  all1_in N hn1 l Bn n₀ n cap a F S hn J Jx hY W hJ (Nat.le_trans hn₀ hW.size) ((cell_blk (blk_below hBn hW) 0).trans rfl)
    (hL.imp id fun ⟨b, o, h1, h2, h3⟩ => ⟨b, o, h1, h2, fun i hi => ⟨(hW.cell (p := ⟨b, _, none⟩) (Nat.lt_of_lt_of_le h2 hn₀)).trans (h3 i hi).1, (hW.cell (p := ⟨b, _, none⟩) (Nat.lt_of_lt_of_le h2 hn₀)).trans (h3 i hi).2⟩⟩) h0

set_option maxHeartbeats 400000 in
theorem spanAll_any (a : Option Addr) (n cap : Nat) (w : World) : Calls Try.prog 36 #[.slice a n cap] w fun e w' => e = .returned (.func (.func 39) #[] #[.pointer (some ⟨w.heap.size, 0, none⟩)]) ∧ w' = w.alloc (.cells #[.slice a n cap] 32) := by
  go_enter Try.func36, Try.ntmps36
  go_wp2
  go_ret
  exact ⟨rfl, rfl⟩

/-- Between two rounds: what the bound's box, the row's box and the row hold. -/
def ToldI (w : World) (most : Int) (pre : List Int) (W : World) : Prop :=
  ∃ v, W.heap[w.heap.size]? = some (.cells #[.int .i64 most] 3 (0, 0)) ∧ W.heap[w.heap.size + 1]? = some (.cells #[v] 30 (0, 0)) ∧ W.ownsRow (w.heap.size + 1 + 1) 3 1 v pre.length (pre.map (Value.int .i64)) ∧ pre.length ≤ most.toNat ∧ Below w.heap.size w W
/-- A round has left: nothing was put any more. -/
def ToldX (w : World) (most : Int) (c : Code) (pre : List Int) (W : World) : Prop := c = .exit 0 ∧ ∃ pre0 x, pre = pre0 ++ [x] ∧ ToldI w most pre0 W ∧ most ≤ (pre0.length : Int)
theorem toldI_calm {w W W' : World} {most : Int} {pre : List Int} {B : Nat} {row : Option Nat} (h : ToldI w most pre W) (hB : w.heap.size ≤ B) (hg : W.grownBy W' row) (hr : ∀ r, row = some r → B ≤ r ∧ ∃ o : Obj, W.heap[r]? = some o ∧ o.isCells = false) : ToldI w most pre W' := by
  obtain ⟨v, h1, h2, h3, h4, h5⟩ := h
  exact ⟨v, blk_calm h1 hg hr, blk_calm h2 hg hr, own_calm h3 hg hr, h4, below_calm h5 hB hg hr⟩

set_option maxRecDepth 100000 in
set_option maxHeartbeats 2000000 in
theorem told_any (most : Int) (a : Option Addr) (n cap : Nat) (F S : Nat → Int) (w : World) (hcap : n ≤ cap) (hn : n ≤ 60) (h : SpansAt w a n F S) (hs : ∀ i, i < n → rightB (F i) (S i) = true → S i ≤ 200) :
    Calls Try.prog 26 #[.int .i64 most, .slice a n cap] w fun e w' => ∃ v, e = .returned v ∧ w'.ownsRow w.heap.size 3 1 v ((allL F S n).take most.toNat).length (((allL F S n).take most.toNat).map (Value.int .i64)) ∧ Below w.heap.size w w' := by
  obtain ⟨i0, hi, hz0, hz1, hz2⟩ := info_parts Try.infoInt
  have hlen := allL_len hs n (Nat.le_refl _)
  have HN := Kp.mk hlen
  clear hlen
  refine (callsIn_wide (n := 3)).1 ?_
  refine callsIn_of_wp_marks Try.func26 rfl trivial ?_ rfl
  simp only [Try.ntmps26, List.size_toArray, List.length_cons, List.length_nil, Nat.reduceAdd, Nat.reduceSub, Array.replicate_succ, Array.replicate_zero, List.push_toArray, List.append_toArray, List.nil_append, List.cons_append]
  have qF := fun (w : World) fn fi ca => run_neq_func_nil (P := Try.prog) w 63 fn fi ca Try.underlying63
  gi_wp2_with (refine ⟨trivial, ?_⟩; gi_at_call 36; refine (callsIn_wide.2 (spanAll_any _ _ _ _)).mono ?_; rintro e w' ⟨rfl, rfl⟩)
  clear qF
  have hB3 : Below w.heap.size w (((w.alloc (.cells #[.int .i64 most] 3)).alloc (.cells #[.slice none 0 0] 30)).alloc (.cells #[.slice a n cap] 32)) := below_al (below_al (below_al (Below.refl _ _) _) _) _
  have k0 : (((w.alloc (.cells #[.int .i64 most] 3)).alloc (.cells #[.slice none 0 0] 30)).alloc (.cells #[.slice a n cap] 32)).heap[w.heap.size]? = some (.cells #[.int .i64 most] 3 (0, 0)) := blk_al (blk_al (blk_new _ _) _) _
  have k1 : (((w.alloc (.cells #[.int .i64 most] 3)).alloc (.cells #[.slice none 0 0] 30)).alloc (.cells #[.slice a n cap] 32)).heap[w.heap.size + 1]? = some (.cells #[.slice none 0 0] 30 (0, 0)) := blk_al (blk_at (w := w.alloc (.cells #[.int .i64 most] 3)) (by simp) _) _
  have k2 : (((w.alloc (.cells #[.int .i64 most] 3)).alloc (.cells #[.slice none 0 0] 30)).alloc (.cells #[.slice a n cap] 32)).heap[w.heap.size + 1 + 1]? = some (.cells #[.slice a n cap] 32 (0, 0)) := blk_at (w := (w.alloc (.cells #[.int .i64 most] 3)).alloc (.cells #[.slice none 0 0] 30)) (by simp) _
  refine wpIn_rangeFunc_ownG rfl (show 1 ≤ 3 by omega) (gf := 39) (lb := #[.pointer (some ⟨w.heap.size + 1 + 1, 0, none⟩)]) rfl trivial (enters_of Try.func39 (by kernel_rfl) rfl)
    (all_stops 2 (by omega) (w.heap.size + 1 + 1) w.heap.size n cap a F S _ (by unfold maxLen; omega) hB3.size k2 ?hL) KeepT.trans (KeepT.put hB3.size) (Below.refl _ _) (fun _ => rfl)
    (ToldI w most) (ToldX w most)
    (fun s A B row hs hg hr => toldI_calm hs hB3.size hg hr)
    (fun c s A B row hs hg hr => ⟨hs.1, hs.2.imp fun _ h => h.imp fun _ h => ⟨h.1, toldI_calm h.2.1 hB3.size hg hr, h.2.2⟩⟩)
    ⟨_, k0, k1, World.ownsRow_nil _ _ _ _, Nat.zero_le _, hB3⟩
    (fun x => { tmps := #[.int .i64 most, .slice a n cap, .pointer (some ⟨w.heap.size, 0, none⟩), undef, .slice none 0 0, .pointer (some ⟨w.heap.size + 1, 0, none⟩), .func (.func 39) #[] #[.pointer (some ⟨w.heap.size + 1 + 1, 0, none⟩)], .int .i64 x, .slice a n cap, .func (.func 39) #[] #[.pointer (some ⟨w.heap.size + 1 + 1, 0, none⟩)], .func (.func 39) #[] #[.pointer (some ⟨w.heap.size + 1 + 1, 0, none⟩)], .bool true, .func (.func 39) #[] #[.pointer (some ⟨w.heap.size + 1 + 1, 0, none⟩)], .int .i64 x, undef, undef, undef, undef, undef, undef, undef, undef, undef], defers := [] }) ?assign ?body ?done ?stop
  case hL =>
    exact h.imp id fun ⟨b, o, g1, g2, g3⟩ => ⟨b, o, g1, g2, fun i hi => ⟨(hB3.cell (p := ⟨b, _, none⟩) g2).trans (g3 i hi).1, (hB3.cell (p := ⟨b, _, none⟩) g2).trans (g3 i hi).2⟩⟩
  case assign =>
    intro l x W K hK
    gi_wp2
    exact hK
  case body =>
    rintro l pre x W ⟨v, g0, g1, hown, hle, hB⟩ hlt
    obtain ⟨a', c', rfl, hc1, hc2⟩ := (RowAt.of_own hown).shape
    have c0 : W.cell? ⟨w.heap.size, 0, none⟩ = some (.int .i64 most) := (cell_blk g0 0).trans rfl
    have c1 : W.cell? ⟨w.heap.size + 1, 0, none⟩ = some (.slice a' pre.length c') := (cell_blk g1 0).trans rfl
    have G0 := Kp.mk g0
    have G1 := Kp.mk g1
    have HB := Kp.mk hB
    have f1 : W.frozen? ⟨w.heap.size + 1, 0, none⟩ = false := frozen_blk g1 0
    have l1 := blk_lt g1
    clear g0 g1 hB
    by_cases hm : most ≤ (pre.length : Int)
    · gi_wp2
      exact ⟨KeepsFrom.refl _ _, rfl, pre, x, rfl, ⟨_, G0.out, G1.out, hown, hle, HB.out⟩, hm⟩
    · gi_wp2_with (gi_at_builtin; refine wpListIn_append_own _ rfl _ _ 30 rfl (w.heap.size + 1 + 1) 3 i0 (.int .i64 0) 1 8 Try.underlying30 hi hz0 hz1 hz2 rfl (by decide) _ _ _ rfl (hown.alloc _) ⟨W.heap.size, 0, none⟩ 1 1 [.int .i64 x] rfl rfl (cell_one_new _ _ _) (by simp [Value.oneCell']) (by have := HN.out; unfold maxLen; omega) (by have := HN.out; omega) (by simp; omega) ?_; intro v' w1 hown' hgrow _; obtain ⟨g', cap', rfl⟩ := ownsRow_succ hown'; have e1 := blk_grown (blk_al G1.out _) (b := w.heap.size + 1) (by omega) (hown.alloc _) hgrow; have d1 : w1.cell? ⟨w.heap.size + 1, 0, none⟩ = some (.slice a' pre.length c') := (cell_blk e1 0).trans rfl; have d2 : w1.frozen? ⟨w.heap.size + 1, 0, none⟩ = false := frozen_blk e1 0)
      have e0 := blk_grown (blk_al G0.out _) (b := w.heap.size) (by omega) (hown.alloc _) hgrow
      have hR : Rnd 23 w.heap.size w.heap.size W w1 := (Rnd.al (Nat.le_trans (by omega) HB.out.size) _).trans (Rnd.own (hown.alloc _) (by decide) (by omega) (by have := HB.out.size; simp; omega) hgrow)
      have hR2 := hR.trans (Rnd.set (T := 23) (n₀ := w.heap.size) (B := w.heap.size) e1 (by decide) (by omega) 0 (.slice (some ⟨g', 0, none⟩) (pre.length + 1) cap'))
      refine ⟨kf_mono hR2.2 (by omega), hR2.1, _, blk_set_ne e0 (by simp) _, (blk_set e1 0 _).trans rfl, own_set_ne (by simpa using hown') (by simp) _, by simp; omega, ?_⟩
      exact (below_own (below_al HB.out _) (Nat.le_trans (by omega) (Nat.le_refl _)) (hown.alloc _) hgrow).setCell (by simp) _
  case done =>
    rintro D ys W hD rfl ⟨v, g0, g1, hown, hle, hB⟩ hK
    have c1 : W.cell? ⟨w.heap.size + 1, 0, none⟩ = some v := (cell_blk g1 0).trans rfl
    obtain ⟨a', c', rfl, hc1, hc2⟩ := (RowAt.of_own hown).shape
    gi_wp2
    refine ⟨by simp, .inl ⟨_, _, rfl, run_takeDeferred hK, ?_⟩⟩
    refine ⟨_, results_tmp rfl _ _ _, _, rfl, ?_, hB.trans (belowK_b (w := w) (Nat.le_refl _) W D _ _ (by simp at hD; omega) hK rfl rfl)⟩
    rw [List.take_of_length_le hle]
    exact own_base (ownsRow_putObj hown _ hK rfl) (by omega)
  case stop =>
    rintro D c pre W hD hpre ⟨rfl, pre0, x, rfl, ⟨v, g0, g1, hown, hle, hB⟩, hmost⟩ hK
    have c1 : W.cell? ⟨w.heap.size + 1, 0, none⟩ = some v := (cell_blk g1 0).trans rfl
    obtain ⟨a', c', rfl, hc1, hc2⟩ := (RowAt.of_own hown).shape
    have hp : (allL F S n).take most.toNat = pre0 := by
      have h1 : pre0 <+: allL F S n := List.IsPrefix.trans (List.prefix_append _ _) hpre
      have h2 : most.toNat = pre0.length := by omega
      rw [h2]
      exact (List.prefix_iff_eq_take.1 h1).symm
    gi_wp2
    refine ⟨by simp, .inl ⟨_, _, rfl, run_takeDeferred hK, ?_⟩⟩
    refine ⟨_, results_tmp rfl _ _ _, _, rfl, ?_, hB.trans (belowK_b (w := w) (Nat.le_refl _) W D _ _ (by simp at hD; omega) hK rfl rfl)⟩
    rw [hp]
    exact own_base (ownsRow_putObj hown _ hK rfl) (by omega)
end Go.Proofs.Ytimikgencnkcnaa

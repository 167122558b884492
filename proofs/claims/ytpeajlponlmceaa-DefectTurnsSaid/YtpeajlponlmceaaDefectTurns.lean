/- The law DefectTurns: its walk. -/
import Derived.Test.YtpeajlponlmceaaTurns
import Derived.Test.YtpeajlponlmceaaRg
import Derived.Deep.DeepCutAuto
import Derived.Deep.CutBlock
namespace Go.Proofs.Ytpeajlponlmceaa
open Go.RowKit
set_option linter.unusedSimpArgs false
set_option linter.unusedVariables false

theorem Try.infoChan : (Try.prog.info? 40).map (fun i => (i.zero, i.size, i.bytes)) = some (some (.agg #[.int .i64 0, .int .i64 0, .int .i64 0, .int .i64 0, .int .i64 0, .int .i64 0, .int .u32 0]), 7, 56) := by kernel_rfl
theorem chan_one (x : Chn) : ∀ u ∈ chanC x, u.oneCell' = true := by intro u hu; simp [chanC] at hu; rcases hu with rfl | rfl | rfl | rfl | rfl | rfl | rfl <;> rfl
theorem chans_one (l : List Chn) : ∀ u ∈ l.flatMap chanC, u.oneCell' = true := fun u hu => by
  obtain ⟨x, _, hx⟩ := List.mem_flatMap.1 hu
  exact chan_one x u hx

def rotK (C : Cfg) (n k : Nat) : List Value := ((rotC C.chans n).take k).flatMap chanC
theorem rotK_succ (C : Cfg) (n k : Nat) (h : k < C.chans.length) (j : Nat) (hj : (k + n) % C.chans.length = j) (hjl : j < C.chans.length) (x : Chn) (hx : C.chans[j] = x) : rotK C n (k + 1) = rotK C n k ++ chanC x := by
  have hl : k < (rotC C.chans n).length := by rw [rotC_len]; exact h
  rw [rotK, List.take_succ_eq_append_getElem hl, List.flatMap_append]
  have h1 : (rotC C.chans n)[k] = x := by
    simp only [rotC, List.getElem_map, List.getElem_range]
    rw [hj, List.getD_eq_getElem?_getD, List.getElem?_eq_getElem hjl, hx]; rfl
  rw [h1]; simp [rotK]
theorem rotK_all (C : Cfg) (n : Nat) : rotK C n C.chans.length = (rotC C.chans n).flatMap chanC := by
  rw [rotK, List.take_of_length_le (by rw [rotC_len]; exact Nat.le_refl _)]
theorem rotC_ok {l : List Chn} {n : Nat} (h : ∀ x ∈ l, x.ok) : ∀ x ∈ rotC l n, x.ok := fun x hx => h x ((rotC_mem l n x).1 hx)
theorem twice_ok {l : List Chn} {x : Chn} (h : ∀ x ∈ l, x.ok) (hx : x ∈ l) : ∀ y ∈ l ++ [x], y.ok := fun y hy => by
  rcases List.mem_append.1 hy with hy | hy
  · exact h y hy
  · rw [List.mem_singleton.1 hy]; exact h x hx
theorem RowAt.lens {w : World} {k : Nat} {a : Option Addr} {n cap : Nat} {cs : List Value} (h : RowAt w k (.slice a n cap) n cs) : n ≤ cap ∧ cap ≤ maxLen := by
  obtain ⟨a', c', he, h1, h2⟩ := h.shape
  simp only [Value.slice.injEq] at he
  obtain ⟨_, _, rfl⟩ := he
  exact ⟨h1, h2⟩
theorem own_ge {w : World} {base : Nat} {e : TypeId} {k : Nat} {g n cap : Nat} {cs : List Value} (h : w.ownsRow base e k (.slice (some ⟨g, 0, none⟩) n cap) n cs) : base ≤ g := by
  rcases h.2 with h | ⟨_, _, _, h, h6, _⟩
  · cases h.1
  · cases h; exact h6
theorem small_chans {C : Cfg} (h : C.great = false) : C.chans.length ≤ 100 := by
  have h := of_decide_eq_false h
  omega
/-- A configuration with another row of channels. -/
theorem cfgAt_with {w : World} {C : Cfg} {pa : Option Addr} {pc : Nat} {ca_ : Option Addr} {cc : Nat} {a0 : Option Addr} {c0 : Nat} {a1 : Option Addr} {c1 : Nat}
    (h : CfgAt w (.agg #[.slice pa C.parts.length pc, .slice ca_ C.chans.length cc, .int .i64 C.l0, .slice a0 C.w0.length c0, .int .i64 C.l1, .slice a1 C.w1.length c1]) C) (l : List Chn) (hl : ∀ x ∈ l, x.ok)
    {n : Nat} {av : Option Addr} {cv : Nat} (hn : l.length = n) (h1 : n ≤ cv) (h2 : cv ≤ maxLen) (hr : RowAt w 7 (.slice av n cv) n (l.flatMap chanC)) :
    CfgAt w (.agg #[.slice pa C.parts.length pc, .slice av n cv, .int .i64 C.l0, .slice a0 C.w0.length c0, .int .i64 C.l1, .slice a1 C.w1.length c1]) (withCh C l) := by
  subst hn
  obtain ⟨ho, pa', pc', ca', cc', a0', c0', a1', c1', hv, b1, b2, b3, b4, g1, g2, g3, g4⟩ := h
  simp only [Value.agg.injEq, Array.mk.injEq, List.cons.injEq, Value.slice.injEq] at hv
  obtain ⟨⟨rfl, _, rfl⟩, ⟨rfl, _, rfl⟩, _, ⟨rfl, _, rfl⟩, _, ⟨rfl, _, rfl⟩, _⟩ := hv
  exact ⟨⟨ho.1, hl, ho.2.2⟩, pa, pc, av, cv, a0, c0, a1, c1, rfl, b1, ⟨h1, h2⟩, b3, b4, g1, hr, g3, g4⟩
theorem twice_holds (C : Cfg) (x : Chn) (hx : x ∈ C.chans) (m : Nat) (h1 : 1 ≤ m) (h2 : m ≤ 17) (h4 : m ≠ 4) : holdsB (withCh C (C.chans ++ [x])) m = holdsB C m := by
  obtain ⟨k, rfl⟩ : ∃ k, m = k + 1 := ⟨m - 1, by omega⟩
  simp only [holdsB, Int.toNat_natCast]
  rw [twice_rule C x hx k (by omega) (by omega)]

set_option maxRecDepth 100000 in
set_option maxHeartbeats 16000000 in
theorem defectTurns_core (cv : Value) (C : Cfg) (hg : C.great = false) (n : Nat) (hn : n < 256) (hpos : 0 < C.chans.length) (w : World) (h : CfgAt w cv C) : Calls Try.prog 5 #[cv, .int .u8 n] w fun e w' => e = .returned (.bool true) ∧ Below w.heap.size w w' := by
  have HC := Kp.mk h
  have hsm := small_of_great hg
  have hs2 := hsm.2.1
  obtain ⟨i0, hi, hz0, hz1, hz2⟩ := info_parts Try.infoChan
  obtain ⟨ho, pa, pc, ca, cc, a0, c0, a1, c1, rfl, bp, bc, b0, b1, hp, hc, hw0, hw1⟩ := h
  have HCH := Kp.mk hc
  obtain ⟨g, o, rfl, hg0, hcc⟩ := HCH.out.at hpos
  have hn0 : ((C.chans.length : Int) == 0) = false := by simpa using (by omega : C.chans.length ≠ 0)
  obtain ⟨j, hj⟩ : ∃ j, n % C.chans.length = j := ⟨_, rfl⟩
  have hjl : j < C.chans.length := hj ▸ Nat.mod_lt _ hpos
  have m1 : (n : Int).tmod (C.chans.length : Int) = (j : Int) := by rw [Int.tmod_eq_emod_of_nonneg (by omega), ← hj]; rfl
  have m2 : IntKind.i64.wrap ((n : Int).tmod (C.chans.length : Int)) = (j : Int) := by rw [m1]; exact IntWalk.i64_in _ (by omega)
  have mw : IntKind.i64.wrap (n : Int) = (n : Int) := IntWalk.i64_in _ (by omega)
  have mnil : ¬ C.chans = [] := fun h => by rw [h] at hpos; simp at hpos
  have HJ := Kp.mk hj
  obtain ⟨x, hx⟩ : ∃ x, C.chans[j] = x := ⟨_, rfl⟩
  have hcu : ∀ i, i < 7 → w.cell? ⟨g, o + j * 7 + i, none⟩ = (chanC x)[i]? := fun i hi => by
    have h1 := hcc (j * 7 + i) (by omega)
    rw [flat_at chanC 7 chanC_len C.chans j i hjl hi, hx] at h1
    rw [Nat.add_assoc]
    exact h1
  have HCU := Kp.mk hcu
  have HXM : Kp (x ∈ C.chans) := ⟨hx ▸ List.getElem_mem hjl⟩
  have HCC0 := Kp.mk hcc
  clear hj hx hcu hcc
  go_enter Try.func5, Try.ntmps5
  go_wp2_with fail
  refine (wakes7_any _).mono ?_
  rintro e w1 ⟨rfl, hb1⟩
  have K0 : w1.heap[w.heap.size]? = some (.cells #[.slice pa C.parts.length pc, .slice (some ⟨g, o, none⟩) C.chans.length cc, .int .i64 C.l0, .slice a0 C.w0.length c0, .int .i64 C.l1, .slice a1 C.w1.length c1] 29 (0, 0)) := blk_below (blk_new w _) hb1
  have HB1 : Kp (Below w.heap.size w w1) := ⟨below_call (by repeat (first | exact Below.refl _ _ | apply below_al)) hb1⟩
  have HK1 := Kp.mk K0
  have q0 : w1.cell? ⟨w.heap.size, 0, none⟩ = some (.slice pa C.parts.length pc) := (cell_blk K0 0).trans rfl
  have q1 : w1.cell? ⟨w.heap.size, 1, none⟩ = some (.slice (some ⟨g, o, none⟩) C.chans.length cc) := (cell_blk K0 1).trans rfl
  have q2 : w1.cell? ⟨w.heap.size, 2, none⟩ = some (.int .i64 C.l0) := (cell_blk K0 2).trans rfl
  have q3 : w1.cell? ⟨w.heap.size, 3, none⟩ = some (.slice a0 C.w0.length c0) := (cell_blk K0 3).trans rfl
  have q4 : w1.cell? ⟨w.heap.size, 4, none⟩ = some (.int .i64 C.l1) := (cell_blk K0 4).trans rfl
  have q5 : w1.cell? ⟨w.heap.size, 5, none⟩ = some (.slice a1 C.w1.length c1) := (cell_blk K0 5).trans rfl
  have l0 := blk_lt K0
  clear hb1 K0 hp hc hw0 hw1 ho
  go_wp2_with fail
  refine (great_any _ C _ (HC.out.below HB1.out)).mono ?_
  rw [hg]
  rintro e w2 ⟨rfl, hb2⟩
  have HB : Kp (Below w.heap.size w w2) := ⟨below_call HB1.out hb2⟩
  have HK := Kp.mk (blk_below HK1.out hb2)
  have hsw := HB.out.size
  have q0 : w2.cell? ⟨w.heap.size, 0, none⟩ = some (.slice pa C.parts.length pc) := (cell_blk HK.out 0).trans rfl
  have q1 : w2.cell? ⟨w.heap.size, 1, none⟩ = some (.slice (some ⟨g, o, none⟩) C.chans.length cc) := (cell_blk HK.out 1).trans rfl
  have q2 : w2.cell? ⟨w.heap.size, 2, none⟩ = some (.int .i64 C.l0) := (cell_blk HK.out 2).trans rfl
  have q3 : w2.cell? ⟨w.heap.size, 3, none⟩ = some (.slice a0 C.w0.length c0) := (cell_blk HK.out 3).trans rfl
  have q4 : w2.cell? ⟨w.heap.size, 4, none⟩ = some (.int .i64 C.l1) := (cell_blk HK.out 4).trans rfl
  have q5 : w2.cell? ⟨w.heap.size, 5, none⟩ = some (.slice a1 C.w1.length c1) := (cell_blk HK.out 5).trans rfl
  have l0 := blk_lt HK.out
  clear hb2 HB1 HK1
  go_upto_region 5 with fail
  go_cut [5, 6] (fun s5 s6 wx => ∃ bx by_ : Nat, s5 = .pointer (some ⟨bx, 0, none⟩) ∧ s6 = .pointer (some ⟨by_, 0, none⟩) ∧ Kp (bx ≠ by_) ∧ Kp (w2.heap.size ≤ bx ∧ w2.heap.size ≤ by_) ∧ Kp (Below w.heap.size w wx) ∧ Kp (wx.heap[w.heap.size]? = some (.cells #[.slice pa C.parts.length pc, .slice (some ⟨g, o, none⟩) C.chans.length cc, .int .i64 C.l0, .slice a0 C.w0.length c0, .int .i64 C.l1, .slice a1 C.w1.length c1] 29 (0, 0))) ∧ Kp (wx.heap[bx]? = some (.cells #[.slice pa C.parts.length pc, .slice (some ⟨g, o, none⟩) C.chans.length cc, .int .i64 C.l0, .slice a0 C.w0.length c0, .int .i64 C.l1, .slice a1 C.w1.length c1] 29 (0, 0))) ∧ Kp (wx.heap[by_]? = some (.cells #[.slice pa C.parts.length pc, .slice (some ⟨g, o, none⟩) C.chans.length cc, .int .i64 C.l0, .slice a0 C.w0.length c0, .int .i64 C.l1, .slice a1 C.w1.length c1] 29 (0, 0))))
  case first =>
    refine held_start_gen (S := (fun w' : World => ButB (w2.heap.size) [] w2 w' ∧ ∀ b o, b < w2.heap.size → w'.cell? ⟨b, o, none⟩ = w2.cell? ⟨b, o, none⟩)) (by kernel_rfl) (fun wz : World => Kp (Below w.heap.size w wz) ∧ Kp (wz.heap[w.heap.size]? = some (.cells #[.slice pa C.parts.length pc, .slice (some ⟨g, o, none⟩) C.chans.length cc, .int .i64 C.l0, .slice a0 C.w0.length c0, .int .i64 C.l1, .slice a1 C.w1.length c1] 29 (0, 0))) ∧ w2.heap.size ≤ wz.heap.size) ⟨⟨below_dr HB.out⟩, ⟨blk_dr HK.out⟩, Nat.le_refl _⟩ (sx_of0 (ButB.dr (ButB.refl _ (by omega)))) (fun wd0 hRn hHeld => ?_)
    clear HB HK
    obtain ⟨HB, HK, hsz⟩ := hRn
    refine wpAnyH_take (i := 0) (oi := ⟨_, _, _, _, _, _⟩) (v := ?_) rfl (by kernel_rfl) (by kernel_rfl) (by kernel_rfl) (fun _ _ _ h => h) (Or.inl ⟨by rfl, ?_⟩) (by assumption) ?_
    rotate_left 1
    · (intro w hSw; go_simp; try with_reducible rfl)
    try simp only [Act.put, List.setIfInBounds_toArray, List.set_cons_zero, List.set_cons_succ]
    refine wpAnyH_take (i := 1) (oi := ⟨_, _, _, _, _, _⟩) (v := ?_) rfl (by kernel_rfl) (by kernel_rfl) (by kernel_rfl) (fun _ _ _ h => h) (Or.inl ⟨by rfl, ?_⟩) (by assumption) ?_
    rotate_left 1
    · (intro w hSw; go_simp; try with_reducible rfl)
    try simp only [Act.put, List.setIfInBounds_toArray, List.set_cons_zero, List.set_cons_succ]
    refine wpAnyH_ready (rs := [2, 3]) (by kernel_rfl) (by simp) ?_
    refine (AllReadyH.cons (o := ⟨_, _, _, _, _, _⟩) rfl (fun K hK => ?_) (AllReadyH.cons (o := ⟨_, _, _, _, _, _⟩) rfl (fun K hK => ?_) AllReadyH.nil))
    · have ge_HX : w2.heap.size ≤ wd0.heap.size := (And.left hHeld).size
      go_simp
      try go_wp2_with fail
      refine out_gen hK _ _ (fun wz : World => Kp (Below w.heap.size w wz) ∧ Kp (wz.heap[w.heap.size]? = some (.cells #[.slice pa C.parts.length pc, .slice (some ⟨g, o, none⟩) C.chans.length cc, .int .i64 C.l0, .slice a0 C.w0.length c0, .int .i64 C.l1, .slice a1 C.w1.length c1] 29 (0, 0))) ∧ Kp (wz.heap[wd0.heap.size]? = some (.cells #[.slice none 0 0, .slice none 0 0, .int .i64 0, .slice none 0 0, .int .i64 0, .slice none 0 0] 29 (0, 0))) ∧ wd0.heap.size < wz.heap.size) ⟨⟨below_al HB.out _⟩, ⟨blk_al HK.out _⟩, ⟨blk_new wd0 _⟩, (by simp)⟩ (sx_of0 (ButB.al (And.left hHeld) _)) (fun wd1 hRn hHn => ?_)
      clear hK K hHeld HB HK
      obtain ⟨HB, HK, HX, hsz1⟩ := hRn
      have hHeld := hHn
      clear hHn
      try simp only [Act.put, List.setIfInBounds_toArray, List.set_cons_zero, List.set_cons_succ]
      have lt_HX := blk_lt HX.out
      refine wpAnyH_ready (rs := [3]) (by kernel_rfl) (by simp) ?_
      refine (AllReadyH.cons (o := ⟨_, _, _, _, _, _⟩) rfl (fun K hK => ?_) AllReadyH.nil)
      have ge_HY : w2.heap.size ≤ wd1.heap.size := (And.left hHeld).size
      go_simp
      try go_wp2_with fail
      refine out_gen hK _ _ (fun wz : World => Kp (Below w.heap.size w wz) ∧ Kp (wz.heap[w.heap.size]? = some (.cells #[.slice pa C.parts.length pc, .slice (some ⟨g, o, none⟩) C.chans.length cc, .int .i64 C.l0, .slice a0 C.w0.length c0, .int .i64 C.l1, .slice a1 C.w1.length c1] 29 (0, 0))) ∧ Kp (wz.heap[wd0.heap.size]? = some (.cells #[.slice none 0 0, .slice none 0 0, .int .i64 0, .slice none 0 0, .int .i64 0, .slice none 0 0] 29 (0, 0))) ∧ Kp (wz.heap[wd1.heap.size]? = some (.cells #[.slice none 0 0, .slice none 0 0, .int .i64 0, .slice none 0 0, .int .i64 0, .slice none 0 0] 29 (0, 0))) ∧ wd1.heap.size < wz.heap.size) ⟨⟨below_al HB.out _⟩, ⟨blk_al HK.out _⟩, ⟨blk_al HX.out _⟩, ⟨blk_new wd1 _⟩, (by simp)⟩ (sx_of0 (ButB.al (And.left hHeld) _)) (fun wd2 hRn hHn => ?_)
      clear hK K hHeld HB HK HX
      obtain ⟨HB, HK, HX, HY, hsz2⟩ := hRn
      have hHeld := hHn
      clear hHn
      try simp only [Act.put, List.setIfInBounds_toArray, List.set_cons_zero, List.set_cons_succ]
      have lt_HY := blk_lt HY.out
      refine wpAnyH_ready (rs := [4]) (by kernel_rfl) (by simp) ?_
      refine (AllReadyH.cons (o := ⟨_, _, _, _, _, _⟩) rfl (fun K hK => ?_) AllReadyH.nil)
      have sd0 : wd2.cell? ⟨wd0.heap.size, 0, none⟩ = some (.slice none 0 0) := (cell_blk HX.out 0).trans rfl
      have sf0 : wd2.frozen? ⟨wd0.heap.size, 0, none⟩ = false := frozen_blk HX.out 0
      have sd1 : wd2.cell? ⟨wd0.heap.size, 1, none⟩ = some (.slice none 0 0) := (cell_blk HX.out 1).trans rfl
      have sf1 : wd2.frozen? ⟨wd0.heap.size, 1, none⟩ = false := frozen_blk HX.out 1
      have sd2 : wd2.cell? ⟨wd0.heap.size, 2, none⟩ = some (.int .i64 0) := (cell_blk HX.out 2).trans rfl
      have sf2 : wd2.frozen? ⟨wd0.heap.size, 2, none⟩ = false := frozen_blk HX.out 2
      have sd3 : wd2.cell? ⟨wd0.heap.size, 3, none⟩ = some (.slice none 0 0) := (cell_blk HX.out 3).trans rfl
      have sf3 : wd2.frozen? ⟨wd0.heap.size, 3, none⟩ = false := frozen_blk HX.out 3
      have sd4 : wd2.cell? ⟨wd0.heap.size, 4, none⟩ = some (.int .i64 0) := (cell_blk HX.out 4).trans rfl
      have sf4 : wd2.frozen? ⟨wd0.heap.size, 4, none⟩ = false := frozen_blk HX.out 4
      have sd5 : wd2.cell? ⟨wd0.heap.size, 5, none⟩ = some (.slice none 0 0) := (cell_blk HX.out 5).trans rfl
      have sf5 : wd2.frozen? ⟨wd0.heap.size, 5, none⟩ = false := frozen_blk HX.out 5
      have sl := blk_lt HX.out
      go_simp
      try go_wp2_with fail
      refine out_gen hK _ _ (fun wz : World => Kp (Below w.heap.size w wz) ∧ Kp (wz.heap[w.heap.size]? = some (.cells #[.slice pa C.parts.length pc, .slice (some ⟨g, o, none⟩) C.chans.length cc, .int .i64 C.l0, .slice a0 C.w0.length c0, .int .i64 C.l1, .slice a1 C.w1.length c1] 29 (0, 0))) ∧ Kp (wz.heap[wd0.heap.size]? = some (.cells #[.slice pa C.parts.length pc, .slice (some ⟨g, o, none⟩) C.chans.length cc, .int .i64 C.l0, .slice a0 C.w0.length c0, .int .i64 C.l1, .slice a1 C.w1.length c1] 29 (0, 0))) ∧ Kp (wz.heap[wd1.heap.size]? = some (.cells #[.slice none 0 0, .slice none 0 0, .int .i64 0, .slice none 0 0, .int .i64 0, .slice none 0 0] 29 (0, 0))) ∧ wd2.heap.size ≤ wz.heap.size) ⟨⟨((((((HB.out.setCell (p := ⟨wd0.heap.size, 0, none⟩) (by show w.heap.size ≤ wd0.heap.size; omega) _).setCell (p := ⟨wd0.heap.size, 1, none⟩) (by show w.heap.size ≤ wd0.heap.size; omega) _).setCell (p := ⟨wd0.heap.size, 2, none⟩) (by show w.heap.size ≤ wd0.heap.size; omega) _).setCell (p := ⟨wd0.heap.size, 3, none⟩) (by show w.heap.size ≤ wd0.heap.size; omega) _).setCell (p := ⟨wd0.heap.size, 4, none⟩) (by show w.heap.size ≤ wd0.heap.size; omega) _).setCell (p := ⟨wd0.heap.size, 5, none⟩) (by show w.heap.size ≤ wd0.heap.size; omega) _)⟩, ⟨(blk_set_ne (p := ⟨wd0.heap.size, 5, none⟩) (blk_set_ne (p := ⟨wd0.heap.size, 4, none⟩) (blk_set_ne (p := ⟨wd0.heap.size, 3, none⟩) (blk_set_ne (p := ⟨wd0.heap.size, 2, none⟩) (blk_set_ne (p := ⟨wd0.heap.size, 1, none⟩) (blk_set_ne (p := ⟨wd0.heap.size, 0, none⟩) HK.out (by show w.heap.size ≠ wd0.heap.size; omega) _) (by show w.heap.size ≠ wd0.heap.size; omega) _) (by show w.heap.size ≠ wd0.heap.size; omega) _) (by show w.heap.size ≠ wd0.heap.size; omega) _) (by show w.heap.size ≠ wd0.heap.size; omega) _) (by show w.heap.size ≠ wd0.heap.size; omega) _)⟩, ⟨(blk_set (blk_set (blk_set (blk_set (blk_set (blk_set HX.out 0 _) 1 _) 2 _) 3 _) 4 _) 5 _).trans rfl⟩, ⟨(blk_set_ne (p := ⟨wd0.heap.size, 5, none⟩) (blk_set_ne (p := ⟨wd0.heap.size, 4, none⟩) (blk_set_ne (p := ⟨wd0.heap.size, 3, none⟩) (blk_set_ne (p := ⟨wd0.heap.size, 2, none⟩) (blk_set_ne (p := ⟨wd0.heap.size, 1, none⟩) (blk_set_ne (p := ⟨wd0.heap.size, 0, none⟩) HY.out (by show wd1.heap.size ≠ wd0.heap.size; omega) _) (by show wd1.heap.size ≠ wd0.heap.size; omega) _) (by show wd1.heap.size ≠ wd0.heap.size; omega) _) (by show wd1.heap.size ≠ wd0.heap.size; omega) _) (by show wd1.heap.size ≠ wd0.heap.size; omega) _) (by show wd1.heap.size ≠ wd0.heap.size; omega) _)⟩, (by simp [World.setCell])⟩ (sx_of0 ((ButB.set (ButB.set (ButB.set (ButB.set (ButB.set (ButB.set (And.left hHeld) (p := ⟨wd0.heap.size, 0, none⟩) (by first | (left; simp; done) | (right; show w2.heap.size ≤ wd0.heap.size; omega)) _) (p := ⟨wd0.heap.size, 1, none⟩) (by first | (left; simp; done) | (right; show w2.heap.size ≤ wd0.heap.size; omega)) _) (p := ⟨wd0.heap.size, 2, none⟩) (by first | (left; simp; done) | (right; show w2.heap.size ≤ wd0.heap.size; omega)) _) (p := ⟨wd0.heap.size, 3, none⟩) (by first | (left; simp; done) | (right; show w2.heap.size ≤ wd0.heap.size; omega)) _) (p := ⟨wd0.heap.size, 4, none⟩) (by first | (left; simp; done) | (right; show w2.heap.size ≤ wd0.heap.size; omega)) _) (p := ⟨wd0.heap.size, 5, none⟩) (by first | (left; simp; done) | (right; show w2.heap.size ≤ wd0.heap.size; omega)) _))) (fun wd3 hRn hHn => ?_)
      clear hK K hHeld HB HK HX HY sd0 sf0 sd1 sf1 sd2 sf2 sd3 sf3 sd4 sf4 sd5 sf5 sl
      obtain ⟨HB, HK, HX, HY, hsz3⟩ := hRn
      have hHeld := hHn
      clear hHn
      try simp only [Act.put, List.setIfInBounds_toArray, List.set_cons_zero, List.set_cons_succ]
      refine wpAnyH_ready (rs := [5]) (by kernel_rfl) (by simp) ?_
      refine (AllReadyH.cons (o := ⟨_, _, _, _, _, _⟩) rfl (fun K hK => ?_) AllReadyH.nil)
      have sd0 : wd3.cell? ⟨wd1.heap.size, 0, none⟩ = some (.slice none 0 0) := (cell_blk HY.out 0).trans rfl
      have sf0 : wd3.frozen? ⟨wd1.heap.size, 0, none⟩ = false := frozen_blk HY.out 0
      have sd1 : wd3.cell? ⟨wd1.heap.size, 1, none⟩ = some (.slice none 0 0) := (cell_blk HY.out 1).trans rfl
      have sf1 : wd3.frozen? ⟨wd1.heap.size, 1, none⟩ = false := frozen_blk HY.out 1
      have sd2 : wd3.cell? ⟨wd1.heap.size, 2, none⟩ = some (.int .i64 0) := (cell_blk HY.out 2).trans rfl
      have sf2 : wd3.frozen? ⟨wd1.heap.size, 2, none⟩ = false := frozen_blk HY.out 2
      have sd3 : wd3.cell? ⟨wd1.heap.size, 3, none⟩ = some (.slice none 0 0) := (cell_blk HY.out 3).trans rfl
      have sf3 : wd3.frozen? ⟨wd1.heap.size, 3, none⟩ = false := frozen_blk HY.out 3
      have sd4 : wd3.cell? ⟨wd1.heap.size, 4, none⟩ = some (.int .i64 0) := (cell_blk HY.out 4).trans rfl
      have sf4 : wd3.frozen? ⟨wd1.heap.size, 4, none⟩ = false := frozen_blk HY.out 4
      have sd5 : wd3.cell? ⟨wd1.heap.size, 5, none⟩ = some (.slice none 0 0) := (cell_blk HY.out 5).trans rfl
      have sf5 : wd3.frozen? ⟨wd1.heap.size, 5, none⟩ = false := frozen_blk HY.out 5
      have sl := blk_lt HY.out
      go_simp
      try go_wp2_with fail
      refine out_gen hK _ _ (fun wz : World => Kp (Below w.heap.size w wz) ∧ Kp (wz.heap[w.heap.size]? = some (.cells #[.slice pa C.parts.length pc, .slice (some ⟨g, o, none⟩) C.chans.length cc, .int .i64 C.l0, .slice a0 C.w0.length c0, .int .i64 C.l1, .slice a1 C.w1.length c1] 29 (0, 0))) ∧ Kp (wz.heap[wd0.heap.size]? = some (.cells #[.slice pa C.parts.length pc, .slice (some ⟨g, o, none⟩) C.chans.length cc, .int .i64 C.l0, .slice a0 C.w0.length c0, .int .i64 C.l1, .slice a1 C.w1.length c1] 29 (0, 0))) ∧ Kp (wz.heap[wd1.heap.size]? = some (.cells #[.slice pa C.parts.length pc, .slice (some ⟨g, o, none⟩) C.chans.length cc, .int .i64 C.l0, .slice a0 C.w0.length c0, .int .i64 C.l1, .slice a1 C.w1.length c1] 29 (0, 0))) ∧ wd3.heap.size ≤ wz.heap.size) ⟨⟨((((((HB.out.setCell (p := ⟨wd1.heap.size, 0, none⟩) (by show w.heap.size ≤ wd1.heap.size; omega) _).setCell (p := ⟨wd1.heap.size, 1, none⟩) (by show w.heap.size ≤ wd1.heap.size; omega) _).setCell (p := ⟨wd1.heap.size, 2, none⟩) (by show w.heap.size ≤ wd1.heap.size; omega) _).setCell (p := ⟨wd1.heap.size, 3, none⟩) (by show w.heap.size ≤ wd1.heap.size; omega) _).setCell (p := ⟨wd1.heap.size, 4, none⟩) (by show w.heap.size ≤ wd1.heap.size; omega) _).setCell (p := ⟨wd1.heap.size, 5, none⟩) (by show w.heap.size ≤ wd1.heap.size; omega) _)⟩, ⟨(blk_set_ne (p := ⟨wd1.heap.size, 5, none⟩) (blk_set_ne (p := ⟨wd1.heap.size, 4, none⟩) (blk_set_ne (p := ⟨wd1.heap.size, 3, none⟩) (blk_set_ne (p := ⟨wd1.heap.size, 2, none⟩) (blk_set_ne (p := ⟨wd1.heap.size, 1, none⟩) (blk_set_ne (p := ⟨wd1.heap.size, 0, none⟩) HK.out (by show w.heap.size ≠ wd1.heap.size; omega) _) (by show w.heap.size ≠ wd1.heap.size; omega) _) (by show w.heap.size ≠ wd1.heap.size; omega) _) (by show w.heap.size ≠ wd1.heap.size; omega) _) (by show w.heap.size ≠ wd1.heap.size; omega) _) (by show w.heap.size ≠ wd1.heap.size; omega) _)⟩, ⟨(blk_set_ne (p := ⟨wd1.heap.size, 5, none⟩) (blk_set_ne (p := ⟨wd1.heap.size, 4, none⟩) (blk_set_ne (p := ⟨wd1.heap.size, 3, none⟩) (blk_set_ne (p := ⟨wd1.heap.size, 2, none⟩) (blk_set_ne (p := ⟨wd1.heap.size, 1, none⟩) (blk_set_ne (p := ⟨wd1.heap.size, 0, none⟩) HX.out (by show wd0.heap.size ≠ wd1.heap.size; omega) _) (by show wd0.heap.size ≠ wd1.heap.size; omega) _) (by show wd0.heap.size ≠ wd1.heap.size; omega) _) (by show wd0.heap.size ≠ wd1.heap.size; omega) _) (by show wd0.heap.size ≠ wd1.heap.size; omega) _) (by show wd0.heap.size ≠ wd1.heap.size; omega) _)⟩, ⟨(blk_set (blk_set (blk_set (blk_set (blk_set (blk_set HY.out 0 _) 1 _) 2 _) 3 _) 4 _) 5 _).trans rfl⟩, (by simp [World.setCell])⟩ (sx_of0 ((ButB.set (ButB.set (ButB.set (ButB.set (ButB.set (ButB.set (And.left hHeld) (p := ⟨wd1.heap.size, 0, none⟩) (by first | (left; simp; done) | (right; show w2.heap.size ≤ wd1.heap.size; omega)) _) (p := ⟨wd1.heap.size, 1, none⟩) (by first | (left; simp; done) | (right; show w2.heap.size ≤ wd1.heap.size; omega)) _) (p := ⟨wd1.heap.size, 2, none⟩) (by first | (left; simp; done) | (right; show w2.heap.size ≤ wd1.heap.size; omega)) _) (p := ⟨wd1.heap.size, 3, none⟩) (by first | (left; simp; done) | (right; show w2.heap.size ≤ wd1.heap.size; omega)) _) (p := ⟨wd1.heap.size, 4, none⟩) (by first | (left; simp; done) | (right; show w2.heap.size ≤ wd1.heap.size; omega)) _) (p := ⟨wd1.heap.size, 5, none⟩) (by first | (left; simp; done) | (right; show w2.heap.size ≤ wd1.heap.size; omega)) _))) (fun wd4 hRn hHn => ?_)
      clear hK K hHeld HB HK HX HY sd0 sf0 sd1 sf1 sd2 sf2 sd3 sf3 sd4 sf4 sd5 sf5 sl
      obtain ⟨HB, HK, HX, HY, hsz4⟩ := hRn
      have hHeld := hHn
      clear hHn
      try simp only [Act.put, List.setIfInBounds_toArray, List.set_cons_zero, List.set_cons_succ]
      refine wpAnyH_done (by kernel_rfl) ?_ _
      go_wp2_with fail
      go_meet
      exact ⟨_, _, rfl, rfl, ⟨by omega⟩, ⟨by omega⟩, HB, HK, HX, HY⟩
    · have ge_HY : w2.heap.size ≤ wd0.heap.size := (And.left hHeld).size
      go_simp
      try go_wp2_with fail
      refine out_gen hK _ _ (fun wz : World => Kp (Below w.heap.size w wz) ∧ Kp (wz.heap[w.heap.size]? = some (.cells #[.slice pa C.parts.length pc, .slice (some ⟨g, o, none⟩) C.chans.length cc, .int .i64 C.l0, .slice a0 C.w0.length c0, .int .i64 C.l1, .slice a1 C.w1.length c1] 29 (0, 0))) ∧ Kp (wz.heap[wd0.heap.size]? = some (.cells #[.slice none 0 0, .slice none 0 0, .int .i64 0, .slice none 0 0, .int .i64 0, .slice none 0 0] 29 (0, 0))) ∧ wd0.heap.size < wz.heap.size) ⟨⟨below_al HB.out _⟩, ⟨blk_al HK.out _⟩, ⟨blk_new wd0 _⟩, (by simp)⟩ (sx_of0 (ButB.al (And.left hHeld) _)) (fun wd5 hRn hHn => ?_)
      clear hK K hHeld HB HK
      obtain ⟨HB, HK, HY, hsz5⟩ := hRn
      have hHeld := hHn
      clear hHn
      try simp only [Act.put, List.setIfInBounds_toArray, List.set_cons_zero, List.set_cons_succ]
      have lt_HY := blk_lt HY.out
      refine wpAnyH_ready (rs := [2]) (by kernel_rfl) (by simp) ?_
      refine (AllReadyH.cons (o := ⟨_, _, _, _, _, _⟩) rfl (fun K hK => ?_) AllReadyH.nil)
      have ge_HX : w2.heap.size ≤ wd5.heap.size := (And.left hHeld).size
      go_simp
      try go_wp2_with fail
      refine out_gen hK _ _ (fun wz : World => Kp (Below w.heap.size w wz) ∧ Kp (wz.heap[w.heap.size]? = some (.cells #[.slice pa C.parts.length pc, .slice (some ⟨g, o, none⟩) C.chans.length cc, .int .i64 C.l0, .slice a0 C.w0.length c0, .int .i64 C.l1, .slice a1 C.w1.length c1] 29 (0, 0))) ∧ Kp (wz.heap[wd0.heap.size]? = some (.cells #[.slice none 0 0, .slice none 0 0, .int .i64 0, .slice none 0 0, .int .i64 0, .slice none 0 0] 29 (0, 0))) ∧ Kp (wz.heap[wd5.heap.size]? = some (.cells #[.slice none 0 0, .slice none 0 0, .int .i64 0, .slice none 0 0, .int .i64 0, .slice none 0 0] 29 (0, 0))) ∧ wd5.heap.size < wz.heap.size) ⟨⟨below_al HB.out _⟩, ⟨blk_al HK.out _⟩, ⟨blk_al HY.out _⟩, ⟨blk_new wd5 _⟩, (by simp)⟩ (sx_of0 (ButB.al (And.left hHeld) _)) (fun wd6 hRn hHn => ?_)
      clear hK K hHeld HB HK HY
      obtain ⟨HB, HK, HY, HX, hsz6⟩ := hRn
      have hHeld := hHn
      clear hHn
      try simp only [Act.put, List.setIfInBounds_toArray, List.set_cons_zero, List.set_cons_succ]
      have lt_HX := blk_lt HX.out
      refine wpAnyH_ready (rs := [4]) (by kernel_rfl) (by simp) ?_
      refine (AllReadyH.cons (o := ⟨_, _, _, _, _, _⟩) rfl (fun K hK => ?_) AllReadyH.nil)
      have sd0 : wd6.cell? ⟨wd5.heap.size, 0, none⟩ = some (.slice none 0 0) := (cell_blk HX.out 0).trans rfl
      have sf0 : wd6.frozen? ⟨wd5.heap.size, 0, none⟩ = false := frozen_blk HX.out 0
      have sd1 : wd6.cell? ⟨wd5.heap.size, 1, none⟩ = some (.slice none 0 0) := (cell_blk HX.out 1).trans rfl
      have sf1 : wd6.frozen? ⟨wd5.heap.size, 1, none⟩ = false := frozen_blk HX.out 1
      have sd2 : wd6.cell? ⟨wd5.heap.size, 2, none⟩ = some (.int .i64 0) := (cell_blk HX.out 2).trans rfl
      have sf2 : wd6.frozen? ⟨wd5.heap.size, 2, none⟩ = false := frozen_blk HX.out 2
      have sd3 : wd6.cell? ⟨wd5.heap.size, 3, none⟩ = some (.slice none 0 0) := (cell_blk HX.out 3).trans rfl
      have sf3 : wd6.frozen? ⟨wd5.heap.size, 3, none⟩ = false := frozen_blk HX.out 3
      have sd4 : wd6.cell? ⟨wd5.heap.size, 4, none⟩ = some (.int .i64 0) := (cell_blk HX.out 4).trans rfl
      have sf4 : wd6.frozen? ⟨wd5.heap.size, 4, none⟩ = false := frozen_blk HX.out 4
      have sd5 : wd6.cell? ⟨wd5.heap.size, 5, none⟩ = some (.slice none 0 0) := (cell_blk HX.out 5).trans rfl
      have sf5 : wd6.frozen? ⟨wd5.heap.size, 5, none⟩ = false := frozen_blk HX.out 5
      have sl := blk_lt HX.out
      go_simp
      try go_wp2_with fail
      refine out_gen hK _ _ (fun wz : World => Kp (Below w.heap.size w wz) ∧ Kp (wz.heap[w.heap.size]? = some (.cells #[.slice pa C.parts.length pc, .slice (some ⟨g, o, none⟩) C.chans.length cc, .int .i64 C.l0, .slice a0 C.w0.length c0, .int .i64 C.l1, .slice a1 C.w1.length c1] 29 (0, 0))) ∧ Kp (wz.heap[wd0.heap.size]? = some (.cells #[.slice none 0 0, .slice none 0 0, .int .i64 0, .slice none 0 0, .int .i64 0, .slice none 0 0] 29 (0, 0))) ∧ Kp (wz.heap[wd5.heap.size]? = some (.cells #[.slice pa C.parts.length pc, .slice (some ⟨g, o, none⟩) C.chans.length cc, .int .i64 C.l0, .slice a0 C.w0.length c0, .int .i64 C.l1, .slice a1 C.w1.length c1] 29 (0, 0))) ∧ wd6.heap.size ≤ wz.heap.size) ⟨⟨((((((HB.out.setCell (p := ⟨wd5.heap.size, 0, none⟩) (by show w.heap.size ≤ wd5.heap.size; omega) _).setCell (p := ⟨wd5.heap.size, 1, none⟩) (by show w.heap.size ≤ wd5.heap.size; omega) _).setCell (p := ⟨wd5.heap.size, 2, none⟩) (by show w.heap.size ≤ wd5.heap.size; omega) _).setCell (p := ⟨wd5.heap.size, 3, none⟩) (by show w.heap.size ≤ wd5.heap.size; omega) _).setCell (p := ⟨wd5.heap.size, 4, none⟩) (by show w.heap.size ≤ wd5.heap.size; omega) _).setCell (p := ⟨wd5.heap.size, 5, none⟩) (by show w.heap.size ≤ wd5.heap.size; omega) _)⟩, ⟨(blk_set_ne (p := ⟨wd5.heap.size, 5, none⟩) (blk_set_ne (p := ⟨wd5.heap.size, 4, none⟩) (blk_set_ne (p := ⟨wd5.heap.size, 3, none⟩) (blk_set_ne (p := ⟨wd5.heap.size, 2, none⟩) (blk_set_ne (p := ⟨wd5.heap.size, 1, none⟩) (blk_set_ne (p := ⟨wd5.heap.size, 0, none⟩) HK.out (by show w.heap.size ≠ wd5.heap.size; omega) _) (by show w.heap.size ≠ wd5.heap.size; omega) _) (by show w.heap.size ≠ wd5.heap.size; omega) _) (by show w.heap.size ≠ wd5.heap.size; omega) _) (by show w.heap.size ≠ wd5.heap.size; omega) _) (by show w.heap.size ≠ wd5.heap.size; omega) _)⟩, ⟨(blk_set_ne (p := ⟨wd5.heap.size, 5, none⟩) (blk_set_ne (p := ⟨wd5.heap.size, 4, none⟩) (blk_set_ne (p := ⟨wd5.heap.size, 3, none⟩) (blk_set_ne (p := ⟨wd5.heap.size, 2, none⟩) (blk_set_ne (p := ⟨wd5.heap.size, 1, none⟩) (blk_set_ne (p := ⟨wd5.heap.size, 0, none⟩) HY.out (by show wd0.heap.size ≠ wd5.heap.size; omega) _) (by show wd0.heap.size ≠ wd5.heap.size; omega) _) (by show wd0.heap.size ≠ wd5.heap.size; omega) _) (by show wd0.heap.size ≠ wd5.heap.size; omega) _) (by show wd0.heap.size ≠ wd5.heap.size; omega) _) (by show wd0.heap.size ≠ wd5.heap.size; omega) _)⟩, ⟨(blk_set (blk_set (blk_set (blk_set (blk_set (blk_set HX.out 0 _) 1 _) 2 _) 3 _) 4 _) 5 _).trans rfl⟩, (by simp [World.setCell])⟩ (sx_of0 ((ButB.set (ButB.set (ButB.set (ButB.set (ButB.set (ButB.set (And.left hHeld) (p := ⟨wd5.heap.size, 0, none⟩) (by first | (left; simp; done) | (right; show w2.heap.size ≤ wd5.heap.size; omega)) _) (p := ⟨wd5.heap.size, 1, none⟩) (by first | (left; simp; done) | (right; show w2.heap.size ≤ wd5.heap.size; omega)) _) (p := ⟨wd5.heap.size, 2, none⟩) (by first | (left; simp; done) | (right; show w2.heap.size ≤ wd5.heap.size; omega)) _) (p := ⟨wd5.heap.size, 3, none⟩) (by first | (left; simp; done) | (right; show w2.heap.size ≤ wd5.heap.size; omega)) _) (p := ⟨wd5.heap.size, 4, none⟩) (by first | (left; simp; done) | (right; show w2.heap.size ≤ wd5.heap.size; omega)) _) (p := ⟨wd5.heap.size, 5, none⟩) (by first | (left; simp; done) | (right; show w2.heap.size ≤ wd5.heap.size; omega)) _))) (fun wd7 hRn hHn => ?_)
      clear hK K hHeld HB HK HY HX sd0 sf0 sd1 sf1 sd2 sf2 sd3 sf3 sd4 sf4 sd5 sf5 sl
      obtain ⟨HB, HK, HY, HX, hsz7⟩ := hRn
      have hHeld := hHn
      clear hHn
      try simp only [Act.put, List.setIfInBounds_toArray, List.set_cons_zero, List.set_cons_succ]
      refine wpAnyH_ready (rs := [5]) (by kernel_rfl) (by simp) ?_
      refine (AllReadyH.cons (o := ⟨_, _, _, _, _, _⟩) rfl (fun K hK => ?_) AllReadyH.nil)
      have sd0 : wd7.cell? ⟨wd0.heap.size, 0, none⟩ = some (.slice none 0 0) := (cell_blk HY.out 0).trans rfl
      have sf0 : wd7.frozen? ⟨wd0.heap.size, 0, none⟩ = false := frozen_blk HY.out 0
      have sd1 : wd7.cell? ⟨wd0.heap.size, 1, none⟩ = some (.slice none 0 0) := (cell_blk HY.out 1).trans rfl
      have sf1 : wd7.frozen? ⟨wd0.heap.size, 1, none⟩ = false := frozen_blk HY.out 1
      have sd2 : wd7.cell? ⟨wd0.heap.size, 2, none⟩ = some (.int .i64 0) := (cell_blk HY.out 2).trans rfl
      have sf2 : wd7.frozen? ⟨wd0.heap.size, 2, none⟩ = false := frozen_blk HY.out 2
      have sd3 : wd7.cell? ⟨wd0.heap.size, 3, none⟩ = some (.slice none 0 0) := (cell_blk HY.out 3).trans rfl
      have sf3 : wd7.frozen? ⟨wd0.heap.size, 3, none⟩ = false := frozen_blk HY.out 3
      have sd4 : wd7.cell? ⟨wd0.heap.size, 4, none⟩ = some (.int .i64 0) := (cell_blk HY.out 4).trans rfl
      have sf4 : wd7.frozen? ⟨wd0.heap.size, 4, none⟩ = false := frozen_blk HY.out 4
      have sd5 : wd7.cell? ⟨wd0.heap.size, 5, none⟩ = some (.slice none 0 0) := (cell_blk HY.out 5).trans rfl
      have sf5 : wd7.frozen? ⟨wd0.heap.size, 5, none⟩ = false := frozen_blk HY.out 5
      have sl := blk_lt HY.out
      go_simp
      try go_wp2_with fail
      refine out_gen hK _ _ (fun wz : World => Kp (Below w.heap.size w wz) ∧ Kp (wz.heap[w.heap.size]? = some (.cells #[.slice pa C.parts.length pc, .slice (some ⟨g, o, none⟩) C.chans.length cc, .int .i64 C.l0, .slice a0 C.w0.length c0, .int .i64 C.l1, .slice a1 C.w1.length c1] 29 (0, 0))) ∧ Kp (wz.heap[wd0.heap.size]? = some (.cells #[.slice pa C.parts.length pc, .slice (some ⟨g, o, none⟩) C.chans.length cc, .int .i64 C.l0, .slice a0 C.w0.length c0, .int .i64 C.l1, .slice a1 C.w1.length c1] 29 (0, 0))) ∧ Kp (wz.heap[wd5.heap.size]? = some (.cells #[.slice pa C.parts.length pc, .slice (some ⟨g, o, none⟩) C.chans.length cc, .int .i64 C.l0, .slice a0 C.w0.length c0, .int .i64 C.l1, .slice a1 C.w1.length c1] 29 (0, 0))) ∧ wd7.heap.size ≤ wz.heap.size) ⟨⟨((((((HB.out.setCell (p := ⟨wd0.heap.size, 0, none⟩) (by show w.heap.size ≤ wd0.heap.size; omega) _).setCell (p := ⟨wd0.heap.size, 1, none⟩) (by show w.heap.size ≤ wd0.heap.size; omega) _).setCell (p := ⟨wd0.heap.size, 2, none⟩) (by show w.heap.size ≤ wd0.heap.size; omega) _).setCell (p := ⟨wd0.heap.size, 3, none⟩) (by show w.heap.size ≤ wd0.heap.size; omega) _).setCell (p := ⟨wd0.heap.size, 4, none⟩) (by show w.heap.size ≤ wd0.heap.size; omega) _).setCell (p := ⟨wd0.heap.size, 5, none⟩) (by show w.heap.size ≤ wd0.heap.size; omega) _)⟩, ⟨(blk_set_ne (p := ⟨wd0.heap.size, 5, none⟩) (blk_set_ne (p := ⟨wd0.heap.size, 4, none⟩) (blk_set_ne (p := ⟨wd0.heap.size, 3, none⟩) (blk_set_ne (p := ⟨wd0.heap.size, 2, none⟩) (blk_set_ne (p := ⟨wd0.heap.size, 1, none⟩) (blk_set_ne (p := ⟨wd0.heap.size, 0, none⟩) HK.out (by show w.heap.size ≠ wd0.heap.size; omega) _) (by show w.heap.size ≠ wd0.heap.size; omega) _) (by show w.heap.size ≠ wd0.heap.size; omega) _) (by show w.heap.size ≠ wd0.heap.size; omega) _) (by show w.heap.size ≠ wd0.heap.size; omega) _) (by show w.heap.size ≠ wd0.heap.size; omega) _)⟩, ⟨(blk_set (blk_set (blk_set (blk_set (blk_set (blk_set HY.out 0 _) 1 _) 2 _) 3 _) 4 _) 5 _).trans rfl⟩, ⟨(blk_set_ne (p := ⟨wd0.heap.size, 5, none⟩) (blk_set_ne (p := ⟨wd0.heap.size, 4, none⟩) (blk_set_ne (p := ⟨wd0.heap.size, 3, none⟩) (blk_set_ne (p := ⟨wd0.heap.size, 2, none⟩) (blk_set_ne (p := ⟨wd0.heap.size, 1, none⟩) (blk_set_ne (p := ⟨wd0.heap.size, 0, none⟩) HX.out (by show wd5.heap.size ≠ wd0.heap.size; omega) _) (by show wd5.heap.size ≠ wd0.heap.size; omega) _) (by show wd5.heap.size ≠ wd0.heap.size; omega) _) (by show wd5.heap.size ≠ wd0.heap.size; omega) _) (by show wd5.heap.size ≠ wd0.heap.size; omega) _) (by show wd5.heap.size ≠ wd0.heap.size; omega) _)⟩, (by simp [World.setCell])⟩ (sx_of0 ((ButB.set (ButB.set (ButB.set (ButB.set (ButB.set (ButB.set (And.left hHeld) (p := ⟨wd0.heap.size, 0, none⟩) (by first | (left; simp; done) | (right; show w2.heap.size ≤ wd0.heap.size; omega)) _) (p := ⟨wd0.heap.size, 1, none⟩) (by first | (left; simp; done) | (right; show w2.heap.size ≤ wd0.heap.size; omega)) _) (p := ⟨wd0.heap.size, 2, none⟩) (by first | (left; simp; done) | (right; show w2.heap.size ≤ wd0.heap.size; omega)) _) (p := ⟨wd0.heap.size, 3, none⟩) (by first | (left; simp; done) | (right; show w2.heap.size ≤ wd0.heap.size; omega)) _) (p := ⟨wd0.heap.size, 4, none⟩) (by first | (left; simp; done) | (right; show w2.heap.size ≤ wd0.heap.size; omega)) _) (p := ⟨wd0.heap.size, 5, none⟩) (by first | (left; simp; done) | (right; show w2.heap.size ≤ wd0.heap.size; omega)) _))) (fun wd8 hRn hHn => ?_)
      clear hK K hHeld HB HK HY HX sd0 sf0 sd1 sf1 sd2 sf2 sd3 sf3 sd4 sf4 sd5 sf5 sl
      obtain ⟨HB, HK, HY, HX, hsz8⟩ := hRn
      have hHeld := hHn
      clear hHn
      try simp only [Act.put, List.setIfInBounds_toArray, List.set_cons_zero, List.set_cons_succ]
      refine wpAnyH_done (by kernel_rfl) ?_ _
      go_wp2_with fail
      go_meet
      exact ⟨_, _, rfl, rfl, ⟨by omega⟩, ⟨by omega⟩, HB, HK, HX, HY⟩
  case rest =>
    clear q0 q1 q2 q3 q4 q5
    obtain ⟨bx, by_, rfl, rfl, HNE, HGE, HB, HK, HX, HY⟩ := hcut
    obtain ⟨w3, rfl⟩ : ∃ w3 : World, w3 = wc := ⟨_, rfl⟩
    have hne := HNE.out
    have hge := HGE.out
    have hne1 : w.heap.size ≠ bx := by omega
    have hne2 : w.heap.size ≠ by_ := by omega
    have hgx : g ≠ bx := by omega
    have hgy : g ≠ by_ := by omega
    have hw3 := HB.out.size
    have hg3 : g < w3.heap.size := by omega
    have q0 : w3.cell? ⟨w.heap.size, 0, none⟩ = some (.slice pa C.parts.length pc) := (cell_blk HK.out 0).trans rfl
    have q1 : w3.cell? ⟨w.heap.size, 1, none⟩ = some (.slice (some ⟨g, o, none⟩) C.chans.length cc) := (cell_blk HK.out 1).trans rfl
    have q2 : w3.cell? ⟨w.heap.size, 2, none⟩ = some (.int .i64 C.l0) := (cell_blk HK.out 2).trans rfl
    have q3 : w3.cell? ⟨w.heap.size, 3, none⟩ = some (.slice a0 C.w0.length c0) := (cell_blk HK.out 3).trans rfl
    have q4 : w3.cell? ⟨w.heap.size, 4, none⟩ = some (.int .i64 C.l1) := (cell_blk HK.out 4).trans rfl
    have q5 : w3.cell? ⟨w.heap.size, 5, none⟩ = some (.slice a1 C.w1.length c1) := (cell_blk HK.out 5).trans rfl
    have lq := blk_lt HK.out
    have x1 : w3.cell? ⟨bx, 1, none⟩ = some (.slice (some ⟨g, o, none⟩) C.chans.length cc) := (cell_blk HX.out 1).trans rfl
    have lx := blk_lt HX.out
    have y1 : w3.cell? ⟨by_, 1, none⟩ = some (.slice (some ⟨g, o, none⟩) C.chans.length cc) := (cell_blk HY.out 1).trans rfl
    have ly := blk_lt HY.out
    have e0 : w3.cell? ⟨g, o + j * 7, none⟩ = some (.int .i64 x.kind) := (HB.out.cell (p := ⟨g, o + j * 7, none⟩) hg0).trans (HCU.out 0 (by omega))
    have e1 : w3.cell? ⟨g, o + j * 7 + 1, none⟩ = some (.int .i64 x.frm) := (HB.out.cell (p := ⟨g, o + j * 7 + 1, none⟩) hg0).trans (HCU.out 1 (by omega))
    have e2 : w3.cell? ⟨g, o + j * 7 + 2, none⟩ = some (.int .i64 x.to) := (HB.out.cell (p := ⟨g, o + j * 7 + 2, none⟩) hg0).trans (HCU.out 2 (by omega))
    have e3 : w3.cell? ⟨g, o + j * 7 + 3, none⟩ = some (.int .i64 x.words) := (HB.out.cell (p := ⟨g, o + j * 7 + 3, none⟩) hg0).trans (HCU.out 3 (by omega))
    have e4 : w3.cell? ⟨g, o + j * 7 + 4, none⟩ = some (.int .i64 x.depth) := (HB.out.cell (p := ⟨g, o + j * 7 + 4, none⟩) hg0).trans (HCU.out 4 (by omega))
    have e5 : w3.cell? ⟨g, o + j * 7 + 5, none⟩ = some (.int .i64 x.period) := (HB.out.cell (p := ⟨g, o + j * 7 + 5, none⟩) hg0).trans (HCU.out 5 (by omega))
    have e6 : w3.cell? ⟨g, o + j * 7 + 6, none⟩ = some (.int .u32 x.boot) := (HB.out.cell (p := ⟨g, o + j * 7 + 6, none⟩) hg0).trans (HCU.out 6 (by omega))
    go_upto_region 6 with fail
    go_cut [] (fun wx => ∃ ga ca2 : Nat, Kp (Below w.heap.size w wx) ∧ Kp (wx.heap[w.heap.size]? = some (.cells #[.slice pa C.parts.length pc, .slice (some ⟨g, o, none⟩) C.chans.length cc, .int .i64 C.l0, .slice a0 C.w0.length c0, .int .i64 C.l1, .slice a1 C.w1.length c1] 29 (0, 0))) ∧ Kp (wx.heap[bx]? = some (.cells #[.slice pa C.parts.length pc, .slice none 0 0, .int .i64 C.l0, .slice a0 C.w0.length c0, .int .i64 C.l1, .slice a1 C.w1.length c1] 29 (0, 0))) ∧ Kp (wx.heap[by_]? = some (.cells #[.slice pa C.parts.length pc, .slice (some ⟨ga, 0, none⟩) (C.chans.length + 1) ca2, .int .i64 C.l0, .slice a0 C.w0.length c0, .int .i64 C.l1, .slice a1 C.w1.length c1] 29 (0, 0))) ∧ Kp (RowAt wx 7 (.slice (some ⟨ga, 0, none⟩) (C.chans.length + 1) ca2) (C.chans.length + 1) (C.chans.flatMap chanC ++ chanC x)) ∧ Kp (ga ≠ bx))
    case first =>
      refine held_start_gen (S := (fun w' : World => ButB (w3.heap.size) [bx, by_] w3 w' ∧ ∀ b o, b < w3.heap.size → b ≠ bx → b ≠ by_ → w'.cell? ⟨b, o, none⟩ = w3.cell? ⟨b, o, none⟩)) (by kernel_rfl) (fun wz : World => Kp (Below w.heap.size w wz) ∧ Kp (wz.heap[w.heap.size]? = some (.cells #[.slice pa C.parts.length pc, .slice (some ⟨g, o, none⟩) C.chans.length cc, .int .i64 C.l0, .slice a0 C.w0.length c0, .int .i64 C.l1, .slice a1 C.w1.length c1] 29 (0, 0))) ∧ Kp (wz.heap[bx]? = some (.cells #[.slice pa C.parts.length pc, .slice (some ⟨g, o, none⟩) C.chans.length cc, .int .i64 C.l0, .slice a0 C.w0.length c0, .int .i64 C.l1, .slice a1 C.w1.length c1] 29 (0, 0))) ∧ Kp (wz.heap[by_]? = some (.cells #[.slice pa C.parts.length pc, .slice (some ⟨g, o, none⟩) C.chans.length cc, .int .i64 C.l0, .slice a0 C.w0.length c0, .int .i64 C.l1, .slice a1 C.w1.length c1] 29 (0, 0))) ∧ w3.heap.size ≤ wz.heap.size) ⟨⟨below_dr HB.out⟩, ⟨blk_dr HK.out⟩, ⟨blk_dr HX.out⟩, ⟨blk_dr HY.out⟩, Nat.le_refl _⟩ (sx_of2 (ButB.dr (ButB.refl _ (by omega)))) (fun wd0 hRn hHeld => ?_)
      clear HB HK HX HY
      obtain ⟨HB, HK, HX, HY, hsz⟩ := hRn
      refine wpAnyH_take (i := 1) (oi := ⟨_, _, _, _, _, _⟩) (v := ?_) rfl (by kernel_rfl) (by kernel_rfl) (by kernel_rfl) (fun _ _ _ h => h) (Or.inl ⟨by rfl, ?_⟩) (by assumption) ?_
      rotate_left 1
      · (intro w hSw; go_simp; try with_reducible rfl)
      try simp only [Act.put, List.setIfInBounds_toArray, List.set_cons_zero, List.set_cons_succ]
      refine wpAnyH_take (i := 2) (oi := ⟨_, _, _, _, _, _⟩) (v := ?_) rfl (by kernel_rfl) (by kernel_rfl) (by kernel_rfl) (fun _ _ _ h => h) (Or.inl ⟨by rfl, ?_⟩) (by assumption) ?_
      rotate_left 1
      · (intro w hSw; go_simp; try with_reducible rfl)
      try simp only [Act.put, List.setIfInBounds_toArray, List.set_cons_zero, List.set_cons_succ]
      refine wpAnyH_take (i := 4) (oi := ⟨_, _, _, _, _, _⟩) (v := ?_) rfl (by kernel_rfl) (by kernel_rfl) (by kernel_rfl) (fun _ _ _ h => h) (Or.inl ⟨by rfl, ?_⟩) (by assumption) ?_
      rotate_left 1
      · (intro w hSw; go_simp; try with_reducible rfl)
      try simp only [Act.put, List.setIfInBounds_toArray, List.set_cons_zero, List.set_cons_succ]
      refine wpAnyH_take (i := 5) (oi := ⟨_, _, _, _, _, _⟩) (v := ?_) rfl (by kernel_rfl) (by kernel_rfl) (by kernel_rfl) (fun _ _ _ h => h) (Or.inl ⟨by rfl, ?_⟩) (by assumption) ?_
      rotate_left 1
      · (intro w hSw; go_simp; try with_reducible rfl)
      try simp only [Act.put, List.setIfInBounds_toArray, List.set_cons_zero, List.set_cons_succ]
      refine wpAnyH_take (i := 6) (oi := ⟨_, _, _, _, _, _⟩) (v := ?_) rfl (by kernel_rfl) (by kernel_rfl) (by kernel_rfl) (fun _ _ _ h => h) (Or.inl ⟨by rfl, ?_⟩) (by assumption) ?_
      rotate_left 1
      · (intro w hSw; go_simp; try with_reducible rfl)
      try simp only [Act.put, List.setIfInBounds_toArray, List.set_cons_zero, List.set_cons_succ]
      refine wpAnyH_take (i := 7) (oi := ⟨_, _, _, _, _, _⟩) (v := ?_) rfl (by kernel_rfl) (by kernel_rfl) (by kernel_rfl) (fun _ _ _ h => h) (Or.inl ⟨by rfl, ?_⟩) (by assumption) ?_
      rotate_left 1
      · (intro w hSw; go_simp; try with_reducible rfl)
      try simp only [Act.put, List.setIfInBounds_toArray, List.set_cons_zero, List.set_cons_succ]
      refine wpAnyH_take (i := 8) (oi := ⟨_, _, _, _, _, _⟩) (v := ?_) rfl (by kernel_rfl) (by kernel_rfl) (by kernel_rfl) (fun _ _ _ h => h) (Or.inl ⟨by rfl, ?_⟩) (by assumption) ?_
      rotate_left 1
      · (intro w hSw; go_simp; try with_reducible rfl)
      try simp only [Act.put, List.setIfInBounds_toArray, List.set_cons_zero, List.set_cons_succ]
      refine wpAnyH_take (i := 9) (oi := ⟨_, _, _, _, _, _⟩) (v := ?_) rfl (by kernel_rfl) (by kernel_rfl) (by kernel_rfl) (fun _ _ _ h => h) (Or.inl ⟨by rfl, ?_⟩) (by assumption) ?_
      rotate_left 1
      · (intro w hSw; go_simp; try with_reducible rfl)
      try simp only [Act.put, List.setIfInBounds_toArray, List.set_cons_zero, List.set_cons_succ]
      refine wpAnyH_take (i := 10) (oi := ⟨_, _, _, _, _, _⟩) (v := ?_) rfl (by kernel_rfl) (by kernel_rfl) (by kernel_rfl) (fun _ _ _ h => h) (Or.inl ⟨by rfl, ?_⟩) (by assumption) ?_
      rotate_left 1
      · (intro w hSw; go_simp; try with_reducible rfl)
      try simp only [Act.put, List.setIfInBounds_toArray, List.set_cons_zero, List.set_cons_succ]
      refine wpAnyH_take (i := 11) (oi := ⟨_, _, _, _, _, _⟩) (v := ?_) rfl (by kernel_rfl) (by kernel_rfl) (by kernel_rfl) (fun _ _ _ h => h) (Or.inl ⟨by rfl, ?_⟩) (by assumption) ?_
      rotate_left 1
      · (intro w hSw; go_simp; try with_reducible rfl)
      try simp only [Act.put, List.setIfInBounds_toArray, List.set_cons_zero, List.set_cons_succ]
      refine wpAnyH_take (i := 12) (oi := ⟨_, _, _, _, _, _⟩) (v := ?_) rfl (by kernel_rfl) (by kernel_rfl) (by kernel_rfl) (fun _ _ _ h => h) (Or.inl ⟨by rfl, ?_⟩) (by assumption) ?_
      rotate_left 1
      · (intro w hSw; go_simp; try with_reducible rfl)
      try simp only [Act.put, List.setIfInBounds_toArray, List.set_cons_zero, List.set_cons_succ]
      refine wpAnyH_take (i := 13) (oi := ⟨_, _, _, _, _, _⟩) (v := ?_) rfl (by kernel_rfl) (by kernel_rfl) (by kernel_rfl) (fun _ _ _ h => h) (Or.inl ⟨by rfl, ?_⟩) (by assumption) ?_
      rotate_left 1
      · (intro w hSw; go_simp; try with_reducible rfl)
      try simp only [Act.put, List.setIfInBounds_toArray, List.set_cons_zero, List.set_cons_succ]
      refine wpAnyH_take (i := 16) (oi := ⟨_, _, _, _, _, _⟩) (v := ?_) rfl (by kernel_rfl) (by kernel_rfl) (by kernel_rfl) (fun _ _ _ h => h) (Or.inl ⟨by rfl, ?_⟩) (by assumption) ?_
      rotate_left 1
      · (intro w hSw; go_simp; try with_reducible rfl)
      try simp only [Act.put, List.setIfInBounds_toArray, List.set_cons_zero, List.set_cons_succ]
      refine wpAnyH_ready (rs := [0, 14]) (by kernel_rfl) (by simp) ?_
      refine (AllReadyH.cons (o := ⟨_, _, _, _, _, _⟩) rfl (fun K hK => ?_) (AllReadyH.cons (o := ⟨_, _, _, _, _, _⟩) rfl (fun K hK => ?_) AllReadyH.nil))
      · have gr := (And.left hHeld).size
        go_simp
        try go_wp2_with fail
        refine out_gen hK _ _ (fun wz : World => Kp (Below w.heap.size w wz) ∧ Kp (wz.heap[w.heap.size]? = some (.cells #[.slice pa C.parts.length pc, .slice (some ⟨g, o, none⟩) C.chans.length cc, .int .i64 C.l0, .slice a0 C.w0.length c0, .int .i64 C.l1, .slice a1 C.w1.length c1] 29 (0, 0))) ∧ Kp (wz.heap[bx]? = some (.cells #[.slice pa C.parts.length pc, .slice (some ⟨g, o, none⟩) C.chans.length cc, .int .i64 C.l0, .slice a0 C.w0.length c0, .int .i64 C.l1, .slice a1 C.w1.length c1] 29 (0, 0))) ∧ Kp (wz.heap[by_]? = some (.cells #[.slice pa C.parts.length pc, .slice (some ⟨g, o, none⟩) C.chans.length cc, .int .i64 C.l0, .slice a0 C.w0.length c0, .int .i64 C.l1, .slice a1 C.w1.length c1] 29 (0, 0))) ∧ Kp (wz.ownsRow (wd0.heap.size) 40 7 (.slice (some ⟨wd0.heap.size, 0, none⟩) 0 0) (0) ([])) ∧ wd0.heap.size < wz.heap.size) ⟨⟨below_al HB.out _⟩, ⟨blk_al HK.out _⟩, ⟨blk_al HX.out _⟩, ⟨blk_al HY.out _⟩, ⟨own_new0 wd0 _ _⟩, (by simp)⟩ (sx_of2 (ButB.al (And.left hHeld) _)) (fun wd1 hRn hHn => ?_)
        clear hK K hHeld HB HK HX HY
        obtain ⟨HB, HK, HX, HY, HO, hsz1⟩ := hRn
        have hHeld := hHn
        clear hHn
        try simp only [Act.put, List.setIfInBounds_toArray, List.set_cons_zero, List.set_cons_succ]
        refine wpAnyH_ready (rs := [3, 14]) (by kernel_rfl) (by simp) ?_
        refine (AllReadyH.cons (o := ⟨_, _, _, _, _, _⟩) rfl (fun K hK => ?_) (AllReadyH.cons (o := ⟨_, _, _, _, _, _⟩) rfl (fun K hK => ?_) AllReadyH.nil))
        · have hws := (And.left hHeld).size
          refine step_append_lies _ (by rfl) _ _ 23 (by rfl) (wd0.heap.size) 40 i0 (.agg #[.int .i64 0, .int .i64 0, .int .i64 0, .int .i64 0, .int .i64 0, .int .i64 0, .int .u32 0]) 7 56 Try.underlying23 hi hz0 hz1 hz2 (by rfl) (by decide) _ _ _ (by rfl) HO.out ⟨g, o, none⟩ C.chans.length cc (C.chans.flatMap chanC) (by rfl) (flat_len chanC 7 chanC_len _) (news_of_row (HCH.out.below HB.out) (by omega) rfl) (chans_one _) (by omega) (by unfold maxLen; omega) (by omega) (by have := hws; omega) _ rfl ?_
          intro g1 k1 w9 hown hgrow hat hlt
          refine out_gen hK _ _ (fun wz : World => Kp (Below w.heap.size w wz) ∧ Kp (wz.heap[w.heap.size]? = some (.cells #[.slice pa C.parts.length pc, .slice (some ⟨g, o, none⟩) C.chans.length cc, .int .i64 C.l0, .slice a0 C.w0.length c0, .int .i64 C.l1, .slice a1 C.w1.length c1] 29 (0, 0))) ∧ Kp (wz.heap[bx]? = some (.cells #[.slice pa C.parts.length pc, .slice (some ⟨g, o, none⟩) C.chans.length cc, .int .i64 C.l0, .slice a0 C.w0.length c0, .int .i64 C.l1, .slice a1 C.w1.length c1] 29 (0, 0))) ∧ Kp (wz.heap[by_]? = some (.cells #[.slice pa C.parts.length pc, .slice (some ⟨g, o, none⟩) C.chans.length cc, .int .i64 C.l0, .slice a0 C.w0.length c0, .int .i64 C.l1, .slice a1 C.w1.length c1] 29 (0, 0))) ∧ Kp (wz.ownsRow (wd0.heap.size) 40 7 (.slice (some ⟨g1, 0, none⟩) (C.chans.length) k1) (C.chans.length) (C.chans.flatMap chanC)) ∧ wd1.heap.size ≤ wz.heap.size) ⟨⟨below_own2 HB.out (by have := HB.out.size; omega) (by omega) HO.out hgrow⟩, ⟨blk_grownR HK.out HO.out hgrow (by first | (intro hq; have := (HO.out.lt _ hq).1; omega) | (intro hq; simp [Value.ownBlock] at hq; omega))⟩, ⟨blk_grownR HX.out HO.out hgrow (by first | (intro hq; have := (HO.out.lt _ hq).1; omega) | (intro hq; simp [Value.ownBlock] at hq; omega))⟩, ⟨blk_grownR HY.out HO.out hgrow (by first | (intro hq; have := (HO.out.lt _ hq).1; omega) | (intro hq; simp [Value.ownBlock] at hq; omega))⟩, ⟨by have h := hown; simp only [Nat.zero_add, List.nil_append] at h; exact h⟩, hgrow.size⟩ (sx_of2 (ButB.grown (And.left hHeld) HO.out hgrow (by omega))) (fun wd2 hRn hHn => ?_)
          clear hK K hHeld HB HK HX HY HO hown hgrow hat hlt hws
          obtain ⟨HB, HK, HX, HY, HO, hsz2⟩ := hRn
          have hHeld := hHn
          clear hHn
          try simp only [Act.put, List.setIfInBounds_toArray, List.set_cons_zero, List.set_cons_succ]
          try simp only [Nat.zero_add]
          refine wpAnyH_ready (rs := [14]) (by kernel_rfl) (by simp) ?_
          refine (AllReadyH.cons (o := ⟨_, _, _, _, _, _⟩) rfl (fun K hK => ?_) AllReadyH.nil)
          have ge_HE : w3.heap.size ≤ wd2.heap.size := (And.left hHeld).size
          go_simp
          try go_wp2_with fail
          refine out_gen hK _ _ (fun wz : World => Kp (Below w.heap.size w wz) ∧ Kp (wz.heap[w.heap.size]? = some (.cells #[.slice pa C.parts.length pc, .slice (some ⟨g, o, none⟩) C.chans.length cc, .int .i64 C.l0, .slice a0 C.w0.length c0, .int .i64 C.l1, .slice a1 C.w1.length c1] 29 (0, 0))) ∧ Kp (wz.heap[bx]? = some (.cells #[.slice pa C.parts.length pc, .slice (some ⟨g, o, none⟩) C.chans.length cc, .int .i64 C.l0, .slice a0 C.w0.length c0, .int .i64 C.l1, .slice a1 C.w1.length c1] 29 (0, 0))) ∧ Kp (wz.heap[by_]? = some (.cells #[.slice pa C.parts.length pc, .slice (some ⟨g, o, none⟩) C.chans.length cc, .int .i64 C.l0, .slice a0 C.w0.length c0, .int .i64 C.l1, .slice a1 C.w1.length c1] 29 (0, 0))) ∧ Kp (wz.ownsRow (wd0.heap.size) 40 7 (.slice (some ⟨g1, 0, none⟩) (C.chans.length) k1) (C.chans.length) (C.chans.flatMap chanC)) ∧ Kp (wz.heap[wd2.heap.size]? = some (.cells #[.int .i64 x.kind, .int .i64 x.frm, .int .i64 x.to, .int .i64 x.words, .int .i64 x.depth, .int .i64 x.period, .int .u32 x.boot] 40 (0, 0))) ∧ wd2.heap.size < wz.heap.size) ⟨⟨below_al HB.out _⟩, ⟨blk_al HK.out _⟩, ⟨blk_al HX.out _⟩, ⟨blk_al HY.out _⟩, ⟨HO.out.alloc _⟩, ⟨blk_new wd2 _⟩, (by simp)⟩ (sx_of2 (ButB.al (And.left hHeld) _)) (fun wd3 hRn hHn => ?_)
          clear hK K hHeld HB HK HX HY HO
          obtain ⟨HB, HK, HX, HY, HO, HE, hsz3⟩ := hRn
          have hHeld := hHn
          clear hHn
          try simp only [Act.put, List.setIfInBounds_toArray, List.set_cons_zero, List.set_cons_succ]
          have lt_HE := blk_lt HE.out
          refine wpAnyH_ready (rs := [15]) (by kernel_rfl) (by simp) ?_
          refine (AllReadyH.cons (o := ⟨_, _, _, _, _, _⟩) rfl (fun K hK => ?_) AllReadyH.nil)
          have hws := (And.left hHeld).size
          refine step_append_lies _ (by rfl) _ _ 23 (by rfl) (wd0.heap.size) 40 i0 (.agg #[.int .i64 0, .int .i64 0, .int .i64 0, .int .i64 0, .int .i64 0, .int .i64 0, .int .u32 0]) 7 56 Try.underlying23 hi hz0 hz1 hz2 (by rfl) (by decide) _ _ _ (by rfl) HO.out _ 1 _ (chanC x) (by rfl) rfl (World.news_of_block HE.out) (chan_one _) (by omega) (by unfold maxLen; omega) (by omega) (by have := hws; omega) _ rfl ?_
          intro g2 k2 w9 hown hgrow hat hlt
          refine out_gen hK _ _ (fun wz : World => Kp (Below w.heap.size w wz) ∧ Kp (wz.heap[w.heap.size]? = some (.cells #[.slice pa C.parts.length pc, .slice (some ⟨g, o, none⟩) C.chans.length cc, .int .i64 C.l0, .slice a0 C.w0.length c0, .int .i64 C.l1, .slice a1 C.w1.length c1] 29 (0, 0))) ∧ Kp (wz.heap[bx]? = some (.cells #[.slice pa C.parts.length pc, .slice (some ⟨g, o, none⟩) C.chans.length cc, .int .i64 C.l0, .slice a0 C.w0.length c0, .int .i64 C.l1, .slice a1 C.w1.length c1] 29 (0, 0))) ∧ Kp (wz.heap[by_]? = some (.cells #[.slice pa C.parts.length pc, .slice (some ⟨g, o, none⟩) C.chans.length cc, .int .i64 C.l0, .slice a0 C.w0.length c0, .int .i64 C.l1, .slice a1 C.w1.length c1] 29 (0, 0))) ∧ Kp (wz.ownsRow (wd0.heap.size) 40 7 (.slice (some ⟨g2, 0, none⟩) (C.chans.length + 1) k2) (C.chans.length + 1) (C.chans.flatMap chanC ++ (chanC x))) ∧ wd3.heap.size ≤ wz.heap.size) ⟨⟨below_own2 HB.out (by have := HB.out.size; omega) (by omega) HO.out hgrow⟩, ⟨blk_grownR HK.out HO.out hgrow (by first | (intro hq; have := (HO.out.lt _ hq).1; omega) | (intro hq; simp [Value.ownBlock] at hq; omega))⟩, ⟨blk_grownR HX.out HO.out hgrow (by first | (intro hq; have := (HO.out.lt _ hq).1; omega) | (intro hq; simp [Value.ownBlock] at hq; omega))⟩, ⟨blk_grownR HY.out HO.out hgrow (by first | (intro hq; have := (HO.out.lt _ hq).1; omega) | (intro hq; simp [Value.ownBlock] at hq; omega))⟩, ⟨hown⟩, hgrow.size⟩ (sx_of2 (ButB.grown (And.left hHeld) HO.out hgrow (by omega))) (fun wd4 hRn hHn => ?_)
          clear hK K hHeld HB HK HX HY HO HE hown hgrow hat hlt hws
          obtain ⟨HB, HK, HX, HY, HO, hsz4⟩ := hRn
          have hHeld := hHn
          clear hHn
          try simp only [Act.put, List.setIfInBounds_toArray, List.set_cons_zero, List.set_cons_succ]
          try simp only [Nat.zero_add]
          refine wpAnyH_ready (rs := [17]) (by kernel_rfl) (by simp) ?_
          refine (AllReadyH.cons (o := ⟨_, _, _, _, _, _⟩) rfl (fun K hK => ?_) AllReadyH.nil)
          have sd : wd4.cell? ⟨bx, 1, none⟩ = some (.slice (some ⟨g, o, none⟩) C.chans.length cc) := (cell_blk HX.out 1).trans rfl
          have sf : wd4.frozen? ⟨bx, 1, none⟩ = false := frozen_blk HX.out 1
          have sl := blk_lt HX.out
          go_simp
          try go_wp2_with fail
          refine out_gen hK _ _ (fun wz : World => Kp (Below w.heap.size w wz) ∧ Kp (wz.heap[w.heap.size]? = some (.cells #[.slice pa C.parts.length pc, .slice (some ⟨g, o, none⟩) C.chans.length cc, .int .i64 C.l0, .slice a0 C.w0.length c0, .int .i64 C.l1, .slice a1 C.w1.length c1] 29 (0, 0))) ∧ Kp (wz.heap[bx]? = some (.cells #[.slice pa C.parts.length pc, .slice none 0 0, .int .i64 C.l0, .slice a0 C.w0.length c0, .int .i64 C.l1, .slice a1 C.w1.length c1] 29 (0, 0))) ∧ Kp (wz.heap[by_]? = some (.cells #[.slice pa C.parts.length pc, .slice (some ⟨g, o, none⟩) C.chans.length cc, .int .i64 C.l0, .slice a0 C.w0.length c0, .int .i64 C.l1, .slice a1 C.w1.length c1] 29 (0, 0))) ∧ Kp (wz.ownsRow (wd0.heap.size) 40 7 (.slice (some ⟨g2, 0, none⟩) (C.chans.length + 1) k2) (C.chans.length + 1) (C.chans.flatMap chanC ++ (chanC x))) ∧ wd4.heap.size ≤ wz.heap.size) ⟨⟨HB.out.setCell (p := ⟨bx, 1, none⟩) (by show w.heap.size ≤ bx; omega) _⟩, ⟨blk_set_ne (p := ⟨bx, 1, none⟩) HK.out (by show w.heap.size ≠ bx; omega) _⟩, ⟨(blk_set HX.out 1 _).trans rfl⟩, ⟨blk_set_ne (p := ⟨bx, 1, none⟩) HY.out (by show by_ ≠ bx; omega) _⟩, ⟨own_set_ne HO.out (p := ⟨bx, 1, none⟩) (by show bx < wd0.heap.size; omega) _⟩, (by simp [World.setCell])⟩ (sx_of2 (ButB.set (And.left hHeld) (p := ⟨bx, 1, none⟩) (by first | (left; simp; done) | (right; show w3.heap.size ≤ bx; omega)) _)) (fun wd5 hRn hHn => ?_)
          clear hK K hHeld HB HK HX HY HO sd sf sl
          obtain ⟨HB, HK, HX, HY, HO, hsz5⟩ := hRn
          have hHeld := hHn
          clear hHn
          try simp only [Act.put, List.setIfInBounds_toArray, List.set_cons_zero, List.set_cons_succ]
          refine wpAnyH_take (i := 18) (oi := ⟨_, _, _, _, _, _⟩) (v := ?_) rfl (by kernel_rfl) (by kernel_rfl) (by kernel_rfl) (fun _ _ _ h => h) (Or.inl ⟨by rfl, ?_⟩) (by assumption) ?_
          rotate_left 1
          · (intro w hSw; go_simp; try with_reducible rfl)
          try simp only [Act.put, List.setIfInBounds_toArray, List.set_cons_zero, List.set_cons_succ]
          refine wpAnyH_ready (rs := [19]) (by kernel_rfl) (by simp) ?_
          refine (AllReadyH.cons (o := ⟨_, _, _, _, _, _⟩) rfl (fun K hK => ?_) AllReadyH.nil)
          have sd : wd5.cell? ⟨by_, 1, none⟩ = some (.slice (some ⟨g, o, none⟩) C.chans.length cc) := (cell_blk HY.out 1).trans rfl
          have sf : wd5.frozen? ⟨by_, 1, none⟩ = false := frozen_blk HY.out 1
          have sl := blk_lt HY.out
          go_simp
          try go_wp2_with fail
          refine out_gen hK _ _ (fun wz : World => Kp (Below w.heap.size w wz) ∧ Kp (wz.heap[w.heap.size]? = some (.cells #[.slice pa C.parts.length pc, .slice (some ⟨g, o, none⟩) C.chans.length cc, .int .i64 C.l0, .slice a0 C.w0.length c0, .int .i64 C.l1, .slice a1 C.w1.length c1] 29 (0, 0))) ∧ Kp (wz.heap[bx]? = some (.cells #[.slice pa C.parts.length pc, .slice none 0 0, .int .i64 C.l0, .slice a0 C.w0.length c0, .int .i64 C.l1, .slice a1 C.w1.length c1] 29 (0, 0))) ∧ Kp (wz.heap[by_]? = some (.cells #[.slice pa C.parts.length pc, .slice (some ⟨g2, 0, none⟩) (C.chans.length + 1) k2, .int .i64 C.l0, .slice a0 C.w0.length c0, .int .i64 C.l1, .slice a1 C.w1.length c1] 29 (0, 0))) ∧ Kp (wz.ownsRow (wd0.heap.size) 40 7 (.slice (some ⟨g2, 0, none⟩) (C.chans.length + 1) k2) (C.chans.length + 1) (C.chans.flatMap chanC ++ (chanC x))) ∧ wd5.heap.size ≤ wz.heap.size) ⟨⟨HB.out.setCell (p := ⟨by_, 1, none⟩) (by show w.heap.size ≤ by_; omega) _⟩, ⟨blk_set_ne (p := ⟨by_, 1, none⟩) HK.out (by show w.heap.size ≠ by_; omega) _⟩, ⟨blk_set_ne (p := ⟨by_, 1, none⟩) HX.out (by show bx ≠ by_; omega) _⟩, ⟨(blk_set HY.out 1 _).trans rfl⟩, ⟨own_set_ne HO.out (p := ⟨by_, 1, none⟩) (by show by_ < wd0.heap.size; omega) _⟩, (by simp [World.setCell])⟩ (sx_of2 (ButB.set (And.left hHeld) (p := ⟨by_, 1, none⟩) (by first | (left; simp; done) | (right; show w3.heap.size ≤ by_; omega)) _)) (fun wd6 hRn hHn => ?_)
          clear hK K hHeld HB HK HX HY HO sd sf sl
          obtain ⟨HB, HK, HX, HY, HO, hsz6⟩ := hRn
          have hHeld := hHn
          clear hHn
          try simp only [Act.put, List.setIfInBounds_toArray, List.set_cons_zero, List.set_cons_succ]
          refine wpAnyH_done (by kernel_rfl) ?_ _
          go_wp2_with fail
          go_meet
          exact ⟨g2, k2, HB, HK, HX, HY, ⟨RowAt.of_own HO.out⟩, ⟨by have := own_ge HO.out; omega⟩⟩
        · have ge_HE : w3.heap.size ≤ wd1.heap.size := (And.left hHeld).size
          go_simp
          try go_wp2_with fail
          refine out_gen hK _ _ (fun wz : World => Kp (Below w.heap.size w wz) ∧ Kp (wz.heap[w.heap.size]? = some (.cells #[.slice pa C.parts.length pc, .slice (some ⟨g, o, none⟩) C.chans.length cc, .int .i64 C.l0, .slice a0 C.w0.length c0, .int .i64 C.l1, .slice a1 C.w1.length c1] 29 (0, 0))) ∧ Kp (wz.heap[bx]? = some (.cells #[.slice pa C.parts.length pc, .slice (some ⟨g, o, none⟩) C.chans.length cc, .int .i64 C.l0, .slice a0 C.w0.length c0, .int .i64 C.l1, .slice a1 C.w1.length c1] 29 (0, 0))) ∧ Kp (wz.heap[by_]? = some (.cells #[.slice pa C.parts.length pc, .slice (some ⟨g, o, none⟩) C.chans.length cc, .int .i64 C.l0, .slice a0 C.w0.length c0, .int .i64 C.l1, .slice a1 C.w1.length c1] 29 (0, 0))) ∧ Kp (wz.ownsRow (wd0.heap.size) 40 7 (.slice (some ⟨wd0.heap.size, 0, none⟩) 0 0) (0) ([])) ∧ Kp (wz.heap[wd1.heap.size]? = some (.cells #[.int .i64 x.kind, .int .i64 x.frm, .int .i64 x.to, .int .i64 x.words, .int .i64 x.depth, .int .i64 x.period, .int .u32 x.boot] 40 (0, 0))) ∧ wd1.heap.size < wz.heap.size) ⟨⟨below_al HB.out _⟩, ⟨blk_al HK.out _⟩, ⟨blk_al HX.out _⟩, ⟨blk_al HY.out _⟩, ⟨HO.out.alloc _⟩, ⟨blk_new wd1 _⟩, (by simp)⟩ (sx_of2 (ButB.al (And.left hHeld) _)) (fun wd7 hRn hHn => ?_)
          clear hK K hHeld HB HK HX HY HO
          obtain ⟨HB, HK, HX, HY, HO, HE, hsz7⟩ := hRn
          have hHeld := hHn
          clear hHn
          try simp only [Act.put, List.setIfInBounds_toArray, List.set_cons_zero, List.set_cons_succ]
          have lt_HE := blk_lt HE.out
          refine wpAnyH_ready (rs := [3]) (by kernel_rfl) (by simp) ?_
          refine (AllReadyH.cons (o := ⟨_, _, _, _, _, _⟩) rfl (fun K hK => ?_) AllReadyH.nil)
          have hws := (And.left hHeld).size
          refine step_append_lies _ (by rfl) _ _ 23 (by rfl) (wd0.heap.size) 40 i0 (.agg #[.int .i64 0, .int .i64 0, .int .i64 0, .int .i64 0, .int .i64 0, .int .i64 0, .int .u32 0]) 7 56 Try.underlying23 hi hz0 hz1 hz2 (by rfl) (by decide) _ _ _ (by rfl) HO.out ⟨g, o, none⟩ C.chans.length cc (C.chans.flatMap chanC) (by rfl) (flat_len chanC 7 chanC_len _) (news_of_row (HCH.out.below HB.out) (by omega) rfl) (chans_one _) (by omega) (by unfold maxLen; omega) (by omega) (by have := hws; omega) _ rfl ?_
          intro g1 k1 w9 hown hgrow hat hlt
          refine out_gen hK _ _ (fun wz : World => Kp (Below w.heap.size w wz) ∧ Kp (wz.heap[w.heap.size]? = some (.cells #[.slice pa C.parts.length pc, .slice (some ⟨g, o, none⟩) C.chans.length cc, .int .i64 C.l0, .slice a0 C.w0.length c0, .int .i64 C.l1, .slice a1 C.w1.length c1] 29 (0, 0))) ∧ Kp (wz.heap[bx]? = some (.cells #[.slice pa C.parts.length pc, .slice (some ⟨g, o, none⟩) C.chans.length cc, .int .i64 C.l0, .slice a0 C.w0.length c0, .int .i64 C.l1, .slice a1 C.w1.length c1] 29 (0, 0))) ∧ Kp (wz.heap[by_]? = some (.cells #[.slice pa C.parts.length pc, .slice (some ⟨g, o, none⟩) C.chans.length cc, .int .i64 C.l0, .slice a0 C.w0.length c0, .int .i64 C.l1, .slice a1 C.w1.length c1] 29 (0, 0))) ∧ Kp (wz.ownsRow (wd0.heap.size) 40 7 (.slice (some ⟨g1, 0, none⟩) (C.chans.length) k1) (C.chans.length) (C.chans.flatMap chanC)) ∧ Kp (wz.heap[wd1.heap.size]? = some (.cells #[.int .i64 x.kind, .int .i64 x.frm, .int .i64 x.to, .int .i64 x.words, .int .i64 x.depth, .int .i64 x.period, .int .u32 x.boot] 40 (0, 0))) ∧ wd7.heap.size ≤ wz.heap.size) ⟨⟨below_own2 HB.out (by have := HB.out.size; omega) (by omega) HO.out hgrow⟩, ⟨blk_grownR HK.out HO.out hgrow (by first | (intro hq; have := (HO.out.lt _ hq).1; omega) | (intro hq; simp [Value.ownBlock] at hq; omega))⟩, ⟨blk_grownR HX.out HO.out hgrow (by first | (intro hq; have := (HO.out.lt _ hq).1; omega) | (intro hq; simp [Value.ownBlock] at hq; omega))⟩, ⟨blk_grownR HY.out HO.out hgrow (by first | (intro hq; have := (HO.out.lt _ hq).1; omega) | (intro hq; simp [Value.ownBlock] at hq; omega))⟩, ⟨by have h := hown; simp only [Nat.zero_add, List.nil_append] at h; exact h⟩, ⟨blk_grownR HE.out HO.out hgrow (by first | (intro hq; have := (HO.out.lt _ hq).1; omega) | (intro hq; simp [Value.ownBlock] at hq; omega))⟩, hgrow.size⟩ (sx_of2 (ButB.grown (And.left hHeld) HO.out hgrow (by omega))) (fun wd8 hRn hHn => ?_)
          clear hK K hHeld HB HK HX HY HO HE hown hgrow hat hlt hws
          obtain ⟨HB, HK, HX, HY, HO, HE, hsz8⟩ := hRn
          have hHeld := hHn
          clear hHn
          try simp only [Act.put, List.setIfInBounds_toArray, List.set_cons_zero, List.set_cons_succ]
          try simp only [Nat.zero_add]
          refine wpAnyH_ready (rs := [15]) (by kernel_rfl) (by simp) ?_
          refine (AllReadyH.cons (o := ⟨_, _, _, _, _, _⟩) rfl (fun K hK => ?_) AllReadyH.nil)
          have hws := (And.left hHeld).size
          refine step_append_lies _ (by rfl) _ _ 23 (by rfl) (wd0.heap.size) 40 i0 (.agg #[.int .i64 0, .int .i64 0, .int .i64 0, .int .i64 0, .int .i64 0, .int .i64 0, .int .u32 0]) 7 56 Try.underlying23 hi hz0 hz1 hz2 (by rfl) (by decide) _ _ _ (by rfl) HO.out _ 1 _ (chanC x) (by rfl) rfl (World.news_of_block HE.out) (chan_one _) (by omega) (by unfold maxLen; omega) (by omega) (by have := hws; omega) _ rfl ?_
          intro g2 k2 w9 hown hgrow hat hlt
          refine out_gen hK _ _ (fun wz : World => Kp (Below w.heap.size w wz) ∧ Kp (wz.heap[w.heap.size]? = some (.cells #[.slice pa C.parts.length pc, .slice (some ⟨g, o, none⟩) C.chans.length cc, .int .i64 C.l0, .slice a0 C.w0.length c0, .int .i64 C.l1, .slice a1 C.w1.length c1] 29 (0, 0))) ∧ Kp (wz.heap[bx]? = some (.cells #[.slice pa C.parts.length pc, .slice (some ⟨g, o, none⟩) C.chans.length cc, .int .i64 C.l0, .slice a0 C.w0.length c0, .int .i64 C.l1, .slice a1 C.w1.length c1] 29 (0, 0))) ∧ Kp (wz.heap[by_]? = some (.cells #[.slice pa C.parts.length pc, .slice (some ⟨g, o, none⟩) C.chans.length cc, .int .i64 C.l0, .slice a0 C.w0.length c0, .int .i64 C.l1, .slice a1 C.w1.length c1] 29 (0, 0))) ∧ Kp (wz.ownsRow (wd0.heap.size) 40 7 (.slice (some ⟨g2, 0, none⟩) (C.chans.length + 1) k2) (C.chans.length + 1) (C.chans.flatMap chanC ++ (chanC x))) ∧ wd8.heap.size ≤ wz.heap.size) ⟨⟨below_own2 HB.out (by have := HB.out.size; omega) (by omega) HO.out hgrow⟩, ⟨blk_grownR HK.out HO.out hgrow (by first | (intro hq; have := (HO.out.lt _ hq).1; omega) | (intro hq; simp [Value.ownBlock] at hq; omega))⟩, ⟨blk_grownR HX.out HO.out hgrow (by first | (intro hq; have := (HO.out.lt _ hq).1; omega) | (intro hq; simp [Value.ownBlock] at hq; omega))⟩, ⟨blk_grownR HY.out HO.out hgrow (by first | (intro hq; have := (HO.out.lt _ hq).1; omega) | (intro hq; simp [Value.ownBlock] at hq; omega))⟩, ⟨hown⟩, hgrow.size⟩ (sx_of2 (ButB.grown (And.left hHeld) HO.out hgrow (by omega))) (fun wd9 hRn hHn => ?_)
          clear hK K hHeld HB HK HX HY HO HE hown hgrow hat hlt hws
          obtain ⟨HB, HK, HX, HY, HO, hsz9⟩ := hRn
          have hHeld := hHn
          clear hHn
          try simp only [Act.put, List.setIfInBounds_toArray, List.set_cons_zero, List.set_cons_succ]
          try simp only [Nat.zero_add]
          refine wpAnyH_ready (rs := [17]) (by kernel_rfl) (by simp) ?_
          refine (AllReadyH.cons (o := ⟨_, _, _, _, _, _⟩) rfl (fun K hK => ?_) AllReadyH.nil)
          have sd : wd9.cell? ⟨bx, 1, none⟩ = some (.slice (some ⟨g, o, none⟩) C.chans.length cc) := (cell_blk HX.out 1).trans rfl
          have sf : wd9.frozen? ⟨bx, 1, none⟩ = false := frozen_blk HX.out 1
          have sl := blk_lt HX.out
          go_simp
          try go_wp2_with fail
          refine out_gen hK _ _ (fun wz : World => Kp (Below w.heap.size w wz) ∧ Kp (wz.heap[w.heap.size]? = some (.cells #[.slice pa C.parts.length pc, .slice (some ⟨g, o, none⟩) C.chans.length cc, .int .i64 C.l0, .slice a0 C.w0.length c0, .int .i64 C.l1, .slice a1 C.w1.length c1] 29 (0, 0))) ∧ Kp (wz.heap[bx]? = some (.cells #[.slice pa C.parts.length pc, .slice none 0 0, .int .i64 C.l0, .slice a0 C.w0.length c0, .int .i64 C.l1, .slice a1 C.w1.length c1] 29 (0, 0))) ∧ Kp (wz.heap[by_]? = some (.cells #[.slice pa C.parts.length pc, .slice (some ⟨g, o, none⟩) C.chans.length cc, .int .i64 C.l0, .slice a0 C.w0.length c0, .int .i64 C.l1, .slice a1 C.w1.length c1] 29 (0, 0))) ∧ Kp (wz.ownsRow (wd0.heap.size) 40 7 (.slice (some ⟨g2, 0, none⟩) (C.chans.length + 1) k2) (C.chans.length + 1) (C.chans.flatMap chanC ++ (chanC x))) ∧ wd9.heap.size ≤ wz.heap.size) ⟨⟨HB.out.setCell (p := ⟨bx, 1, none⟩) (by show w.heap.size ≤ bx; omega) _⟩, ⟨blk_set_ne (p := ⟨bx, 1, none⟩) HK.out (by show w.heap.size ≠ bx; omega) _⟩, ⟨(blk_set HX.out 1 _).trans rfl⟩, ⟨blk_set_ne (p := ⟨bx, 1, none⟩) HY.out (by show by_ ≠ bx; omega) _⟩, ⟨own_set_ne HO.out (p := ⟨bx, 1, none⟩) (by show bx < wd0.heap.size; omega) _⟩, (by simp [World.setCell])⟩ (sx_of2 (ButB.set (And.left hHeld) (p := ⟨bx, 1, none⟩) (by first | (left; simp; done) | (right; show w3.heap.size ≤ bx; omega)) _)) (fun wd10 hRn hHn => ?_)
          clear hK K hHeld HB HK HX HY HO sd sf sl
          obtain ⟨HB, HK, HX, HY, HO, hsz10⟩ := hRn
          have hHeld := hHn
          clear hHn
          try simp only [Act.put, List.setIfInBounds_toArray, List.set_cons_zero, List.set_cons_succ]
          refine wpAnyH_take (i := 18) (oi := ⟨_, _, _, _, _, _⟩) (v := ?_) rfl (by kernel_rfl) (by kernel_rfl) (by kernel_rfl) (fun _ _ _ h => h) (Or.inl ⟨by rfl, ?_⟩) (by assumption) ?_
          rotate_left 1
          · (intro w hSw; go_simp; try with_reducible rfl)
          try simp only [Act.put, List.setIfInBounds_toArray, List.set_cons_zero, List.set_cons_succ]
          refine wpAnyH_ready (rs := [19]) (by kernel_rfl) (by simp) ?_
          refine (AllReadyH.cons (o := ⟨_, _, _, _, _, _⟩) rfl (fun K hK => ?_) AllReadyH.nil)
          have sd : wd10.cell? ⟨by_, 1, none⟩ = some (.slice (some ⟨g, o, none⟩) C.chans.length cc) := (cell_blk HY.out 1).trans rfl
          have sf : wd10.frozen? ⟨by_, 1, none⟩ = false := frozen_blk HY.out 1
          have sl := blk_lt HY.out
          go_simp
          try go_wp2_with fail
          refine out_gen hK _ _ (fun wz : World => Kp (Below w.heap.size w wz) ∧ Kp (wz.heap[w.heap.size]? = some (.cells #[.slice pa C.parts.length pc, .slice (some ⟨g, o, none⟩) C.chans.length cc, .int .i64 C.l0, .slice a0 C.w0.length c0, .int .i64 C.l1, .slice a1 C.w1.length c1] 29 (0, 0))) ∧ Kp (wz.heap[bx]? = some (.cells #[.slice pa C.parts.length pc, .slice none 0 0, .int .i64 C.l0, .slice a0 C.w0.length c0, .int .i64 C.l1, .slice a1 C.w1.length c1] 29 (0, 0))) ∧ Kp (wz.heap[by_]? = some (.cells #[.slice pa C.parts.length pc, .slice (some ⟨g2, 0, none⟩) (C.chans.length + 1) k2, .int .i64 C.l0, .slice a0 C.w0.length c0, .int .i64 C.l1, .slice a1 C.w1.length c1] 29 (0, 0))) ∧ Kp (wz.ownsRow (wd0.heap.size) 40 7 (.slice (some ⟨g2, 0, none⟩) (C.chans.length + 1) k2) (C.chans.length + 1) (C.chans.flatMap chanC ++ (chanC x))) ∧ wd10.heap.size ≤ wz.heap.size) ⟨⟨HB.out.setCell (p := ⟨by_, 1, none⟩) (by show w.heap.size ≤ by_; omega) _⟩, ⟨blk_set_ne (p := ⟨by_, 1, none⟩) HK.out (by show w.heap.size ≠ by_; omega) _⟩, ⟨blk_set_ne (p := ⟨by_, 1, none⟩) HX.out (by show bx ≠ by_; omega) _⟩, ⟨(blk_set HY.out 1 _).trans rfl⟩, ⟨own_set_ne HO.out (p := ⟨by_, 1, none⟩) (by show by_ < wd0.heap.size; omega) _⟩, (by simp [World.setCell])⟩ (sx_of2 (ButB.set (And.left hHeld) (p := ⟨by_, 1, none⟩) (by first | (left; simp; done) | (right; show w3.heap.size ≤ by_; omega)) _)) (fun wd11 hRn hHn => ?_)
          clear hK K hHeld HB HK HX HY HO sd sf sl
          obtain ⟨HB, HK, HX, HY, HO, hsz11⟩ := hRn
          have hHeld := hHn
          clear hHn
          try simp only [Act.put, List.setIfInBounds_toArray, List.set_cons_zero, List.set_cons_succ]
          refine wpAnyH_done (by kernel_rfl) ?_ _
          go_wp2_with fail
          go_meet
          exact ⟨g2, k2, HB, HK, HX, HY, ⟨RowAt.of_own HO.out⟩, ⟨by have := own_ge HO.out; omega⟩⟩
      · have ge_HE : w3.heap.size ≤ wd0.heap.size := (And.left hHeld).size
        go_simp
        try go_wp2_with fail
        refine out_gen hK _ _ (fun wz : World => Kp (Below w.heap.size w wz) ∧ Kp (wz.heap[w.heap.size]? = some (.cells #[.slice pa C.parts.length pc, .slice (some ⟨g, o, none⟩) C.chans.length cc, .int .i64 C.l0, .slice a0 C.w0.length c0, .int .i64 C.l1, .slice a1 C.w1.length c1] 29 (0, 0))) ∧ Kp (wz.heap[bx]? = some (.cells #[.slice pa C.parts.length pc, .slice (some ⟨g, o, none⟩) C.chans.length cc, .int .i64 C.l0, .slice a0 C.w0.length c0, .int .i64 C.l1, .slice a1 C.w1.length c1] 29 (0, 0))) ∧ Kp (wz.heap[by_]? = some (.cells #[.slice pa C.parts.length pc, .slice (some ⟨g, o, none⟩) C.chans.length cc, .int .i64 C.l0, .slice a0 C.w0.length c0, .int .i64 C.l1, .slice a1 C.w1.length c1] 29 (0, 0))) ∧ Kp (wz.heap[wd0.heap.size]? = some (.cells #[.int .i64 x.kind, .int .i64 x.frm, .int .i64 x.to, .int .i64 x.words, .int .i64 x.depth, .int .i64 x.period, .int .u32 x.boot] 40 (0, 0))) ∧ wd0.heap.size < wz.heap.size) ⟨⟨below_al HB.out _⟩, ⟨blk_al HK.out _⟩, ⟨blk_al HX.out _⟩, ⟨blk_al HY.out _⟩, ⟨blk_new wd0 _⟩, (by simp)⟩ (sx_of2 (ButB.al (And.left hHeld) _)) (fun wd12 hRn hHn => ?_)
        clear hK K hHeld HB HK HX HY
        obtain ⟨HB, HK, HX, HY, HE, hsz12⟩ := hRn
        have hHeld := hHn
        clear hHn
        try simp only [Act.put, List.setIfInBounds_toArray, List.set_cons_zero, List.set_cons_succ]
        have lt_HE := blk_lt HE.out
        refine wpAnyH_ready (rs := [0]) (by kernel_rfl) (by simp) ?_
        refine (AllReadyH.cons (o := ⟨_, _, _, _, _, _⟩) rfl (fun K hK => ?_) AllReadyH.nil)
        have gr := (And.left hHeld).size
        go_simp
        try go_wp2_with fail
        refine out_gen hK _ _ (fun wz : World => Kp (Below w.heap.size w wz) ∧ Kp (wz.heap[w.heap.size]? = some (.cells #[.slice pa C.parts.length pc, .slice (some ⟨g, o, none⟩) C.chans.length cc, .int .i64 C.l0, .slice a0 C.w0.length c0, .int .i64 C.l1, .slice a1 C.w1.length c1] 29 (0, 0))) ∧ Kp (wz.heap[bx]? = some (.cells #[.slice pa C.parts.length pc, .slice (some ⟨g, o, none⟩) C.chans.length cc, .int .i64 C.l0, .slice a0 C.w0.length c0, .int .i64 C.l1, .slice a1 C.w1.length c1] 29 (0, 0))) ∧ Kp (wz.heap[by_]? = some (.cells #[.slice pa C.parts.length pc, .slice (some ⟨g, o, none⟩) C.chans.length cc, .int .i64 C.l0, .slice a0 C.w0.length c0, .int .i64 C.l1, .slice a1 C.w1.length c1] 29 (0, 0))) ∧ Kp (wz.heap[wd0.heap.size]? = some (.cells #[.int .i64 x.kind, .int .i64 x.frm, .int .i64 x.to, .int .i64 x.words, .int .i64 x.depth, .int .i64 x.period, .int .u32 x.boot] 40 (0, 0))) ∧ Kp (wz.ownsRow (wd12.heap.size) 40 7 (.slice (some ⟨wd12.heap.size, 0, none⟩) 0 0) (0) ([])) ∧ wd12.heap.size < wz.heap.size) ⟨⟨below_al HB.out _⟩, ⟨blk_al HK.out _⟩, ⟨blk_al HX.out _⟩, ⟨blk_al HY.out _⟩, ⟨blk_al HE.out _⟩, ⟨own_new0 wd12 _ _⟩, (by simp)⟩ (sx_of2 (ButB.al (And.left hHeld) _)) (fun wd13 hRn hHn => ?_)
        clear hK K hHeld HB HK HX HY HE
        obtain ⟨HB, HK, HX, HY, HE, HO, hsz13⟩ := hRn
        have hHeld := hHn
        clear hHn
        try simp only [Act.put, List.setIfInBounds_toArray, List.set_cons_zero, List.set_cons_succ]
        refine wpAnyH_ready (rs := [3]) (by kernel_rfl) (by simp) ?_
        refine (AllReadyH.cons (o := ⟨_, _, _, _, _, _⟩) rfl (fun K hK => ?_) AllReadyH.nil)
        have hws := (And.left hHeld).size
        refine step_append_lies _ (by rfl) _ _ 23 (by rfl) (wd12.heap.size) 40 i0 (.agg #[.int .i64 0, .int .i64 0, .int .i64 0, .int .i64 0, .int .i64 0, .int .i64 0, .int .u32 0]) 7 56 Try.underlying23 hi hz0 hz1 hz2 (by rfl) (by decide) _ _ _ (by rfl) HO.out ⟨g, o, none⟩ C.chans.length cc (C.chans.flatMap chanC) (by rfl) (flat_len chanC 7 chanC_len _) (news_of_row (HCH.out.below HB.out) (by omega) rfl) (chans_one _) (by omega) (by unfold maxLen; omega) (by omega) (by have := hws; omega) _ rfl ?_
        intro g1 k1 w9 hown hgrow hat hlt
        refine out_gen hK _ _ (fun wz : World => Kp (Below w.heap.size w wz) ∧ Kp (wz.heap[w.heap.size]? = some (.cells #[.slice pa C.parts.length pc, .slice (some ⟨g, o, none⟩) C.chans.length cc, .int .i64 C.l0, .slice a0 C.w0.length c0, .int .i64 C.l1, .slice a1 C.w1.length c1] 29 (0, 0))) ∧ Kp (wz.heap[bx]? = some (.cells #[.slice pa C.parts.length pc, .slice (some ⟨g, o, none⟩) C.chans.length cc, .int .i64 C.l0, .slice a0 C.w0.length c0, .int .i64 C.l1, .slice a1 C.w1.length c1] 29 (0, 0))) ∧ Kp (wz.heap[by_]? = some (.cells #[.slice pa C.parts.length pc, .slice (some ⟨g, o, none⟩) C.chans.length cc, .int .i64 C.l0, .slice a0 C.w0.length c0, .int .i64 C.l1, .slice a1 C.w1.length c1] 29 (0, 0))) ∧ Kp (wz.heap[wd0.heap.size]? = some (.cells #[.int .i64 x.kind, .int .i64 x.frm, .int .i64 x.to, .int .i64 x.words, .int .i64 x.depth, .int .i64 x.period, .int .u32 x.boot] 40 (0, 0))) ∧ Kp (wz.ownsRow (wd12.heap.size) 40 7 (.slice (some ⟨g1, 0, none⟩) (C.chans.length) k1) (C.chans.length) (C.chans.flatMap chanC)) ∧ wd13.heap.size ≤ wz.heap.size) ⟨⟨below_own2 HB.out (by have := HB.out.size; omega) (by omega) HO.out hgrow⟩, ⟨blk_grownR HK.out HO.out hgrow (by first | (intro hq; have := (HO.out.lt _ hq).1; omega) | (intro hq; simp [Value.ownBlock] at hq; omega))⟩, ⟨blk_grownR HX.out HO.out hgrow (by first | (intro hq; have := (HO.out.lt _ hq).1; omega) | (intro hq; simp [Value.ownBlock] at hq; omega))⟩, ⟨blk_grownR HY.out HO.out hgrow (by first | (intro hq; have := (HO.out.lt _ hq).1; omega) | (intro hq; simp [Value.ownBlock] at hq; omega))⟩, ⟨blk_grownR HE.out HO.out hgrow (by first | (intro hq; have := (HO.out.lt _ hq).1; omega) | (intro hq; simp [Value.ownBlock] at hq; omega))⟩, ⟨by have h := hown; simp only [Nat.zero_add, List.nil_append] at h; exact h⟩, hgrow.size⟩ (sx_of2 (ButB.grown (And.left hHeld) HO.out hgrow (by omega))) (fun wd14 hRn hHn => ?_)
        clear hK K hHeld HB HK HX HY HE HO hown hgrow hat hlt hws
        obtain ⟨HB, HK, HX, HY, HE, HO, hsz14⟩ := hRn
        have hHeld := hHn
        clear hHn
        try simp only [Act.put, List.setIfInBounds_toArray, List.set_cons_zero, List.set_cons_succ]
        try simp only [Nat.zero_add]
        refine wpAnyH_ready (rs := [15]) (by kernel_rfl) (by simp) ?_
        refine (AllReadyH.cons (o := ⟨_, _, _, _, _, _⟩) rfl (fun K hK => ?_) AllReadyH.nil)
        have hws := (And.left hHeld).size
        refine step_append_lies _ (by rfl) _ _ 23 (by rfl) (wd12.heap.size) 40 i0 (.agg #[.int .i64 0, .int .i64 0, .int .i64 0, .int .i64 0, .int .i64 0, .int .i64 0, .int .u32 0]) 7 56 Try.underlying23 hi hz0 hz1 hz2 (by rfl) (by decide) _ _ _ (by rfl) HO.out _ 1 _ (chanC x) (by rfl) rfl (World.news_of_block HE.out) (chan_one _) (by omega) (by unfold maxLen; omega) (by omega) (by have := hws; omega) _ rfl ?_
        intro g2 k2 w9 hown hgrow hat hlt
        refine out_gen hK _ _ (fun wz : World => Kp (Below w.heap.size w wz) ∧ Kp (wz.heap[w.heap.size]? = some (.cells #[.slice pa C.parts.length pc, .slice (some ⟨g, o, none⟩) C.chans.length cc, .int .i64 C.l0, .slice a0 C.w0.length c0, .int .i64 C.l1, .slice a1 C.w1.length c1] 29 (0, 0))) ∧ Kp (wz.heap[bx]? = some (.cells #[.slice pa C.parts.length pc, .slice (some ⟨g, o, none⟩) C.chans.length cc, .int .i64 C.l0, .slice a0 C.w0.length c0, .int .i64 C.l1, .slice a1 C.w1.length c1] 29 (0, 0))) ∧ Kp (wz.heap[by_]? = some (.cells #[.slice pa C.parts.length pc, .slice (some ⟨g, o, none⟩) C.chans.length cc, .int .i64 C.l0, .slice a0 C.w0.length c0, .int .i64 C.l1, .slice a1 C.w1.length c1] 29 (0, 0))) ∧ Kp (wz.ownsRow (wd12.heap.size) 40 7 (.slice (some ⟨g2, 0, none⟩) (C.chans.length + 1) k2) (C.chans.length + 1) (C.chans.flatMap chanC ++ (chanC x))) ∧ wd14.heap.size ≤ wz.heap.size) ⟨⟨below_own2 HB.out (by have := HB.out.size; omega) (by omega) HO.out hgrow⟩, ⟨blk_grownR HK.out HO.out hgrow (by first | (intro hq; have := (HO.out.lt _ hq).1; omega) | (intro hq; simp [Value.ownBlock] at hq; omega))⟩, ⟨blk_grownR HX.out HO.out hgrow (by first | (intro hq; have := (HO.out.lt _ hq).1; omega) | (intro hq; simp [Value.ownBlock] at hq; omega))⟩, ⟨blk_grownR HY.out HO.out hgrow (by first | (intro hq; have := (HO.out.lt _ hq).1; omega) | (intro hq; simp [Value.ownBlock] at hq; omega))⟩, ⟨hown⟩, hgrow.size⟩ (sx_of2 (ButB.grown (And.left hHeld) HO.out hgrow (by omega))) (fun wd15 hRn hHn => ?_)
        clear hK K hHeld HB HK HX HY HE HO hown hgrow hat hlt hws
        obtain ⟨HB, HK, HX, HY, HO, hsz15⟩ := hRn
        have hHeld := hHn
        clear hHn
        try simp only [Act.put, List.setIfInBounds_toArray, List.set_cons_zero, List.set_cons_succ]
        try simp only [Nat.zero_add]
        refine wpAnyH_ready (rs := [17]) (by kernel_rfl) (by simp) ?_
        refine (AllReadyH.cons (o := ⟨_, _, _, _, _, _⟩) rfl (fun K hK => ?_) AllReadyH.nil)
        have sd : wd15.cell? ⟨bx, 1, none⟩ = some (.slice (some ⟨g, o, none⟩) C.chans.length cc) := (cell_blk HX.out 1).trans rfl
        have sf : wd15.frozen? ⟨bx, 1, none⟩ = false := frozen_blk HX.out 1
        have sl := blk_lt HX.out
        go_simp
        try go_wp2_with fail
        refine out_gen hK _ _ (fun wz : World => Kp (Below w.heap.size w wz) ∧ Kp (wz.heap[w.heap.size]? = some (.cells #[.slice pa C.parts.length pc, .slice (some ⟨g, o, none⟩) C.chans.length cc, .int .i64 C.l0, .slice a0 C.w0.length c0, .int .i64 C.l1, .slice a1 C.w1.length c1] 29 (0, 0))) ∧ Kp (wz.heap[bx]? = some (.cells #[.slice pa C.parts.length pc, .slice none 0 0, .int .i64 C.l0, .slice a0 C.w0.length c0, .int .i64 C.l1, .slice a1 C.w1.length c1] 29 (0, 0))) ∧ Kp (wz.heap[by_]? = some (.cells #[.slice pa C.parts.length pc, .slice (some ⟨g, o, none⟩) C.chans.length cc, .int .i64 C.l0, .slice a0 C.w0.length c0, .int .i64 C.l1, .slice a1 C.w1.length c1] 29 (0, 0))) ∧ Kp (wz.ownsRow (wd12.heap.size) 40 7 (.slice (some ⟨g2, 0, none⟩) (C.chans.length + 1) k2) (C.chans.length + 1) (C.chans.flatMap chanC ++ (chanC x))) ∧ wd15.heap.size ≤ wz.heap.size) ⟨⟨HB.out.setCell (p := ⟨bx, 1, none⟩) (by show w.heap.size ≤ bx; omega) _⟩, ⟨blk_set_ne (p := ⟨bx, 1, none⟩) HK.out (by show w.heap.size ≠ bx; omega) _⟩, ⟨(blk_set HX.out 1 _).trans rfl⟩, ⟨blk_set_ne (p := ⟨bx, 1, none⟩) HY.out (by show by_ ≠ bx; omega) _⟩, ⟨own_set_ne HO.out (p := ⟨bx, 1, none⟩) (by show bx < wd12.heap.size; omega) _⟩, (by simp [World.setCell])⟩ (sx_of2 (ButB.set (And.left hHeld) (p := ⟨bx, 1, none⟩) (by first | (left; simp; done) | (right; show w3.heap.size ≤ bx; omega)) _)) (fun wd16 hRn hHn => ?_)
        clear hK K hHeld HB HK HX HY HO sd sf sl
        obtain ⟨HB, HK, HX, HY, HO, hsz16⟩ := hRn
        have hHeld := hHn
        clear hHn
        try simp only [Act.put, List.setIfInBounds_toArray, List.set_cons_zero, List.set_cons_succ]
        refine wpAnyH_take (i := 18) (oi := ⟨_, _, _, _, _, _⟩) (v := ?_) rfl (by kernel_rfl) (by kernel_rfl) (by kernel_rfl) (fun _ _ _ h => h) (Or.inl ⟨by rfl, ?_⟩) (by assumption) ?_
        rotate_left 1
        · (intro w hSw; go_simp; try with_reducible rfl)
        try simp only [Act.put, List.setIfInBounds_toArray, List.set_cons_zero, List.set_cons_succ]
        refine wpAnyH_ready (rs := [19]) (by kernel_rfl) (by simp) ?_
        refine (AllReadyH.cons (o := ⟨_, _, _, _, _, _⟩) rfl (fun K hK => ?_) AllReadyH.nil)
        have sd : wd16.cell? ⟨by_, 1, none⟩ = some (.slice (some ⟨g, o, none⟩) C.chans.length cc) := (cell_blk HY.out 1).trans rfl
        have sf : wd16.frozen? ⟨by_, 1, none⟩ = false := frozen_blk HY.out 1
        have sl := blk_lt HY.out
        go_simp
        try go_wp2_with fail
        refine out_gen hK _ _ (fun wz : World => Kp (Below w.heap.size w wz) ∧ Kp (wz.heap[w.heap.size]? = some (.cells #[.slice pa C.parts.length pc, .slice (some ⟨g, o, none⟩) C.chans.length cc, .int .i64 C.l0, .slice a0 C.w0.length c0, .int .i64 C.l1, .slice a1 C.w1.length c1] 29 (0, 0))) ∧ Kp (wz.heap[bx]? = some (.cells #[.slice pa C.parts.length pc, .slice none 0 0, .int .i64 C.l0, .slice a0 C.w0.length c0, .int .i64 C.l1, .slice a1 C.w1.length c1] 29 (0, 0))) ∧ Kp (wz.heap[by_]? = some (.cells #[.slice pa C.parts.length pc, .slice (some ⟨g2, 0, none⟩) (C.chans.length + 1) k2, .int .i64 C.l0, .slice a0 C.w0.length c0, .int .i64 C.l1, .slice a1 C.w1.length c1] 29 (0, 0))) ∧ Kp (wz.ownsRow (wd12.heap.size) 40 7 (.slice (some ⟨g2, 0, none⟩) (C.chans.length + 1) k2) (C.chans.length + 1) (C.chans.flatMap chanC ++ (chanC x))) ∧ wd16.heap.size ≤ wz.heap.size) ⟨⟨HB.out.setCell (p := ⟨by_, 1, none⟩) (by show w.heap.size ≤ by_; omega) _⟩, ⟨blk_set_ne (p := ⟨by_, 1, none⟩) HK.out (by show w.heap.size ≠ by_; omega) _⟩, ⟨blk_set_ne (p := ⟨by_, 1, none⟩) HX.out (by show bx ≠ by_; omega) _⟩, ⟨(blk_set HY.out 1 _).trans rfl⟩, ⟨own_set_ne HO.out (p := ⟨by_, 1, none⟩) (by show by_ < wd12.heap.size; omega) _⟩, (by simp [World.setCell])⟩ (sx_of2 (ButB.set (And.left hHeld) (p := ⟨by_, 1, none⟩) (by first | (left; simp; done) | (right; show w3.heap.size ≤ by_; omega)) _)) (fun wd17 hRn hHn => ?_)
        clear hK K hHeld HB HK HX HY HO sd sf sl
        obtain ⟨HB, HK, HX, HY, HO, hsz17⟩ := hRn
        have hHeld := hHn
        clear hHn
        try simp only [Act.put, List.setIfInBounds_toArray, List.set_cons_zero, List.set_cons_succ]
        refine wpAnyH_done (by kernel_rfl) ?_ _
        go_wp2_with fail
        go_meet
        exact ⟨g2, k2, HB, HK, HX, HY, ⟨RowAt.of_own HO.out⟩, ⟨by have := own_ge HO.out; omega⟩⟩
    case rest =>
      obtain ⟨ga, ca2, HB, HK, HX, HY, HR, HGX⟩ := hcut
      obtain ⟨w4, rfl⟩ : ∃ w4 : World, w4 = wc := ⟨_, rfl⟩
      clear q0 q1 q2 q3 q4 q5 x1 y1 lq lx ly e0 e1 e2 e3 e4 e5 e6
      have hga : ga < w4.heap.size := by
        obtain ⟨_, _, ha, hh, _⟩ := HR.out.at (by omega)
        cases ha
        exact hh
      have hgab : ga ≠ bx := HGX.out
      have hbx4 := blk_lt HX.out
      have hby4 := blk_lt HY.out
      have hw4 := HB.out.size
      have q1 : w4.cell? ⟨w.heap.size, 1, none⟩ = some (.slice (some ⟨g, o, none⟩) C.chans.length cc) := (cell_blk HK.out 1).trans rfl
      go_wp2_with fail
      clear q1
      go_loopw [42] (fun i wr => ∃ (k : Nat) (vp : Value), k ≤ C.chans.length ∧ i = .int .i64 k ∧ Kp (Below w.heap.size w wr) ∧ Kp (wr.heap[w.heap.size]? = some (.cells #[.slice pa C.parts.length pc, .slice (some ⟨g, o, none⟩) C.chans.length cc, .int .i64 C.l0, .slice a0 C.w0.length c0, .int .i64 C.l1, .slice a1 C.w1.length c1] 29 (0, 0))) ∧ Kp (wr.heap[bx]? = some (.cells #[.slice pa C.parts.length pc, vp, .int .i64 C.l0, .slice a0 C.w0.length c0, .int .i64 C.l1, .slice a1 C.w1.length c1] 29 (0, 0))) ∧ Kp (wr.heap[by_]? = some (.cells #[.slice pa C.parts.length pc, .slice (some ⟨ga, 0, none⟩) (C.chans.length + 1) ca2, .int .i64 C.l0, .slice a0 C.w0.length c0, .int .i64 C.l1, .slice a1 C.w1.length c1] 29 (0, 0))) ∧ Kp (ButS [bx] w4 wr) ∧ Kp (wr.ownsRow w4.heap.size 40 7 vp k (rotK C n k))) (fun i wr => C.chans.length - (intOf i).toNat)
      case atStart => exact ⟨0, .slice none 0 0, Nat.zero_le _, rfl, HB, HK, HX, HY, ⟨ButS.refl _ _⟩, ⟨World.ownsRow_nil _ _ _ _⟩⟩
      case round =>
        obtain ⟨k, vp, hk, rfl, HB, HK, HX, HY, HBU, HO⟩ := hrel
        obtain ⟨av, cv, rfl, hv1, hv2⟩ := (RowAt.of_own HO.out).shape
        have hwr := HBU.out.size
        have hbxr := blk_lt HX.out
        have hbyr := blk_lt HY.out
        have q0 : wr.cell? ⟨w.heap.size, 0, none⟩ = some (.slice pa C.parts.length pc) := (cell_blk HK.out 0).trans rfl
        have q1 : wr.cell? ⟨w.heap.size, 1, none⟩ = some (.slice (some ⟨g, o, none⟩) C.chans.length cc) := (cell_blk HK.out 1).trans rfl
        have q2 : wr.cell? ⟨w.heap.size, 2, none⟩ = some (.int .i64 C.l0) := (cell_blk HK.out 2).trans rfl
        have q3 : wr.cell? ⟨w.heap.size, 3, none⟩ = some (.slice a0 C.w0.length c0) := (cell_blk HK.out 3).trans rfl
        have q4 : wr.cell? ⟨w.heap.size, 4, none⟩ = some (.int .i64 C.l1) := (cell_blk HK.out 4).trans rfl
        have q5 : wr.cell? ⟨w.heap.size, 5, none⟩ = some (.slice a1 C.w1.length c1) := (cell_blk HK.out 5).trans rfl
        have lq := blk_lt HK.out
        by_cases hlt : k < C.chans.length
        · obtain ⟨jk, hjk⟩ : ∃ jk, (k + n) % C.chans.length = jk := ⟨_, rfl⟩
          have hjkl : jk < C.chans.length := hjk ▸ Nat.mod_lt _ hpos
          have s1 : IntKind.i64.wrap ((k : Int) + (n : Int)) = (k : Int) + (n : Int) := IntWalk.i64_in _ (by omega)
          have s2 : ((k : Int) + (n : Int)).tmod (C.chans.length : Int) = (jk : Int) := by rw [Int.tmod_eq_emod_of_nonneg (by omega), ← hjk]; rfl
          have s3 : (0 : Int) ≤ (jk : Int) := by omega
          have s4 : (jk : Int) < (C.chans.length : Int) := by omega
          obtain ⟨x, hx⟩ : ∃ x, C.chans[jk] = x := ⟨_, rfl⟩
          have HN := Kp.mk (rotK_succ C n k hlt jk hjk hjkl x hx)
          have hcu : ∀ i, i < 7 → wr.cell? ⟨g, o + jk * 7 + i, none⟩ = (chanC x)[i]? := fun i hi => by
            have h1 := HCC0.out (jk * 7 + i) (by omega)
            rw [flat_at chanC 7 chanC_len C.chans jk i hjkl hi, hx] at h1
            rw [Nat.add_assoc]
            exact (HB.out.cell (p := ⟨g, o + (jk * 7 + i), none⟩) hg0).trans h1
          have e0 : wr.cell? ⟨g, o + jk * 7, none⟩ = some (.int .i64 x.kind) := hcu 0 (by omega)
          have e1 : wr.cell? ⟨g, o + jk * 7 + 1, none⟩ = some (.int .i64 x.frm) := hcu 1 (by omega)
          have e2 : wr.cell? ⟨g, o + jk * 7 + 2, none⟩ = some (.int .i64 x.to) := hcu 2 (by omega)
          have e3 : wr.cell? ⟨g, o + jk * 7 + 3, none⟩ = some (.int .i64 x.words) := hcu 3 (by omega)
          have e4 : wr.cell? ⟨g, o + jk * 7 + 4, none⟩ = some (.int .i64 x.depth) := hcu 4 (by omega)
          have e5 : wr.cell? ⟨g, o + jk * 7 + 5, none⟩ = some (.int .i64 x.period) := hcu 5 (by omega)
          have e6 : wr.cell? ⟨g, o + jk * 7 + 6, none⟩ = some (.int .u32 x.boot) := hcu 6 (by omega)
          have hgr : g < w4.heap.size := by omega
          have hwx4 : w.heap.size < w4.heap.size := by omega
          clear hcu hjk hx
          go_wp2_with fail
          refine held_start_gen (S := (fun w' : World => ButB (w4.heap.size) [bx] wr w' ∧ ∀ b o, b < w4.heap.size → b ≠ bx → w'.cell? ⟨b, o, none⟩ = wr.cell? ⟨b, o, none⟩)) (by kernel_rfl) (fun wz : World => Kp (Below w.heap.size w wz) ∧ Kp (wz.heap[w.heap.size]? = some (.cells #[.slice pa C.parts.length pc, .slice (some ⟨g, o, none⟩) C.chans.length cc, .int .i64 C.l0, .slice a0 C.w0.length c0, .int .i64 C.l1, .slice a1 C.w1.length c1] 29 (0, 0))) ∧ Kp (wz.heap[bx]? = some (.cells #[.slice pa C.parts.length pc, (.slice av k cv), .int .i64 C.l0, .slice a0 C.w0.length c0, .int .i64 C.l1, .slice a1 C.w1.length c1] 29 (0, 0))) ∧ Kp (wz.heap[by_]? = some (.cells #[.slice pa C.parts.length pc, .slice (some ⟨ga, 0, none⟩) (C.chans.length + 1) ca2, .int .i64 C.l0, .slice a0 C.w0.length c0, .int .i64 C.l1, .slice a1 C.w1.length c1] 29 (0, 0))) ∧ Kp (ButS [bx] w4 wz) ∧ Kp (wz.ownsRow (w4.heap.size) 40 7 ((.slice av k cv)) (k) (rotK C n k)) ∧ wr.heap.size ≤ wz.heap.size) ⟨⟨below_dr HB.out⟩, ⟨blk_dr HK.out⟩, ⟨blk_dr HX.out⟩, ⟨blk_dr HY.out⟩, ⟨ButS.dr HBU.out⟩, ⟨HO.out⟩, Nat.le_refl _⟩ (sx_of1 (ButB.dr (ButB.refl _ (by omega)))) (fun wd0 hRn hHeld => ?_)
          clear HB HK HX HY HBU HO
          obtain ⟨HB, HK, HX, HY, HBU, HO, hsz⟩ := hRn
          refine wpAnyH_take (i := 0) (oi := ⟨_, _, _, _, _, _⟩) (v := ?_) rfl (by kernel_rfl) (by kernel_rfl) (by kernel_rfl) (fun _ _ _ h => h) (Or.inl ⟨by rfl, ?_⟩) (by assumption) ?_
          rotate_left 1
          · (intro w hSw; go_simp; try with_reducible rfl)
          try simp only [Act.put, List.setIfInBounds_toArray, List.set_cons_zero, List.set_cons_succ]
          refine wpAnyH_take (i := 2) (oi := ⟨_, _, _, _, _, _⟩) (v := ?_) rfl (by kernel_rfl) (by kernel_rfl) (by kernel_rfl) (fun _ _ _ h => h) (Or.inl ⟨by rfl, ?_⟩) (by assumption) ?_
          rotate_left 1
          · (intro w hSw; go_simp; try with_reducible rfl)
          try simp only [Act.put, List.setIfInBounds_toArray, List.set_cons_zero, List.set_cons_succ]
          refine wpAnyH_take (i := 3) (oi := ⟨_, _, _, _, _, _⟩) (v := ?_) rfl (by kernel_rfl) (by kernel_rfl) (by kernel_rfl) (fun _ _ _ h => h) (Or.inl ⟨by rfl, ?_⟩) (by assumption) ?_
          rotate_left 1
          · (intro w hSw; go_simp; try with_reducible rfl)
          try simp only [Act.put, List.setIfInBounds_toArray, List.set_cons_zero, List.set_cons_succ]
          refine wpAnyH_take (i := 4) (oi := ⟨_, _, _, _, _, _⟩) (v := ?_) rfl (by kernel_rfl) (by kernel_rfl) (by kernel_rfl) (fun _ _ _ h => h) (Or.inl ⟨by rfl, ?_⟩) (by assumption) ?_
          rotate_left 1
          · (intro w hSw; go_simp; try with_reducible rfl)
          try simp only [Act.put, List.setIfInBounds_toArray, List.set_cons_zero, List.set_cons_succ]
          refine wpAnyH_take (i := 5) (oi := ⟨_, _, _, _, _, _⟩) (v := ?_) rfl (by kernel_rfl) (by kernel_rfl) (by kernel_rfl) (fun _ _ _ h => h) (Or.inl ⟨by rfl, ?_⟩) (by assumption) ?_
          rotate_left 1
          · (intro w hSw; go_simp; try with_reducible rfl)
          try simp only [Act.put, List.setIfInBounds_toArray, List.set_cons_zero, List.set_cons_succ]
          refine wpAnyH_take (i := 6) (oi := ⟨_, _, _, _, _, _⟩) (v := ?_) rfl (by kernel_rfl) (by kernel_rfl) (by kernel_rfl) (fun _ _ _ h => h) (Or.inl ⟨by rfl, ?_⟩) (by assumption) ?_
          rotate_left 1
          · (intro w hSw; go_simp; try with_reducible rfl)
          try simp only [Act.put, List.setIfInBounds_toArray, List.set_cons_zero, List.set_cons_succ]
          refine wpAnyH_take (i := 7) (oi := ⟨_, _, _, _, _, _⟩) (v := ?_) rfl (by kernel_rfl) (by kernel_rfl) (by kernel_rfl) (fun _ _ _ h => h) (Or.inl ⟨by rfl, ?_⟩) (by assumption) ?_
          rotate_left 1
          · (intro w hSw; go_simp; try with_reducible rfl)
          try simp only [Act.put, List.setIfInBounds_toArray, List.set_cons_zero, List.set_cons_succ]
          refine wpAnyH_take (i := 8) (oi := ⟨_, _, _, _, _, _⟩) (v := ?_) rfl (by kernel_rfl) (by kernel_rfl) (by kernel_rfl) (fun _ _ _ h => h) (Or.inl ⟨by rfl, ?_⟩) (by assumption) ?_
          rotate_left 1
          · (intro w hSw; go_simp; try with_reducible rfl)
          try simp only [Act.put, List.setIfInBounds_toArray, List.set_cons_zero, List.set_cons_succ]
          refine wpAnyH_take (i := 9) (oi := ⟨_, _, _, _, _, _⟩) (v := ?_) rfl (by kernel_rfl) (by kernel_rfl) (by kernel_rfl) (fun _ _ _ h => h) (Or.inl ⟨by rfl, ?_⟩) (by assumption) ?_
          rotate_left 1
          · (intro w hSw; go_simp; try with_reducible rfl)
          try simp only [Act.put, List.setIfInBounds_toArray, List.set_cons_zero, List.set_cons_succ]
          refine wpAnyH_take (i := 10) (oi := ⟨_, _, _, _, _, _⟩) (v := ?_) rfl (by kernel_rfl) (by kernel_rfl) (by kernel_rfl) (fun _ _ _ h => h) (Or.inl ⟨by rfl, ?_⟩) (by assumption) ?_
          rotate_left 1
          · (intro w hSw; go_simp; try with_reducible rfl)
          try simp only [Act.put, List.setIfInBounds_toArray, List.set_cons_zero, List.set_cons_succ]
          refine wpAnyH_take (i := 11) (oi := ⟨_, _, _, _, _, _⟩) (v := ?_) rfl (by kernel_rfl) (by kernel_rfl) (by kernel_rfl) (fun _ _ _ h => h) (Or.inl ⟨by rfl, ?_⟩) (by assumption) ?_
          rotate_left 1
          · (intro w hSw; go_simp; try with_reducible rfl)
          try simp only [Act.put, List.setIfInBounds_toArray, List.set_cons_zero, List.set_cons_succ]
          refine wpAnyH_take (i := 12) (oi := ⟨_, _, _, _, _, _⟩) (v := ?_) rfl (by kernel_rfl) (by kernel_rfl) (by kernel_rfl) (fun _ _ _ h => h) (Or.inl ⟨by rfl, ?_⟩) (by assumption) ?_
          rotate_left 1
          · (intro w hSw; go_simp; try with_reducible rfl)
          try simp only [Act.put, List.setIfInBounds_toArray, List.set_cons_zero, List.set_cons_succ]
          refine wpAnyH_take (i := 13) (oi := ⟨_, _, _, _, _, _⟩) (v := ?_) rfl (by kernel_rfl) (by kernel_rfl) (by kernel_rfl) (fun _ _ _ h => h) (Or.inl ⟨by rfl, ?_⟩) (by assumption) ?_
          rotate_left 1
          · (intro w hSw; go_simp; try with_reducible rfl)
          try simp only [Act.put, List.setIfInBounds_toArray, List.set_cons_zero, List.set_cons_succ]
          refine wpAnyH_ready (rs := [1, 14]) (by kernel_rfl) (by simp) ?_
          refine (AllReadyH.cons (o := ⟨_, _, _, _, _, _⟩) rfl (fun K hK => ?_) (AllReadyH.cons (o := ⟨_, _, _, _, _, _⟩) rfl (fun K hK => ?_) AllReadyH.nil))
          · have sd1 : wd0.cell? ⟨bx, 1, none⟩ = some ((.slice av k cv)) := (cell_blk HX.out 1).trans rfl
            have sl := blk_lt HX.out
            go_simp
            try go_wp2_with fail
            refine out_gen hK _ _ (fun wz : World => Kp (Below w.heap.size w wz) ∧ Kp (wz.heap[w.heap.size]? = some (.cells #[.slice pa C.parts.length pc, .slice (some ⟨g, o, none⟩) C.chans.length cc, .int .i64 C.l0, .slice a0 C.w0.length c0, .int .i64 C.l1, .slice a1 C.w1.length c1] 29 (0, 0))) ∧ Kp (wz.heap[bx]? = some (.cells #[.slice pa C.parts.length pc, (.slice av k cv), .int .i64 C.l0, .slice a0 C.w0.length c0, .int .i64 C.l1, .slice a1 C.w1.length c1] 29 (0, 0))) ∧ Kp (wz.heap[by_]? = some (.cells #[.slice pa C.parts.length pc, .slice (some ⟨ga, 0, none⟩) (C.chans.length + 1) ca2, .int .i64 C.l0, .slice a0 C.w0.length c0, .int .i64 C.l1, .slice a1 C.w1.length c1] 29 (0, 0))) ∧ Kp (ButS [bx] w4 wz) ∧ Kp (wz.ownsRow (w4.heap.size) 40 7 ((.slice av k cv)) (k) (rotK C n k)) ∧ wd0.heap.size ≤ wz.heap.size) ⟨⟨HB.out⟩, ⟨HK.out⟩, ⟨HX.out⟩, ⟨HY.out⟩, ⟨HBU.out⟩, ⟨HO.out⟩, Nat.le_refl _⟩ (sx_of1 ((And.left hHeld))) (fun wd1 hRn hHn => ?_)
            clear hK K hHeld HB HK HX HY HBU HO  sd1 sl
            obtain ⟨HB, HK, HX, HY, HBU, HO, hsz1⟩ := hRn
            have hHeld := hHn
            clear hHn
            try simp only [Act.put, List.setIfInBounds_toArray, List.set_cons_zero, List.set_cons_succ]
            refine wpAnyH_ready (rs := [14]) (by kernel_rfl) (by simp) ?_
            refine (AllReadyH.cons (o := ⟨_, _, _, _, _, _⟩) rfl (fun K hK => ?_) AllReadyH.nil)
            have ge_HE : wr.heap.size ≤ wd1.heap.size := (And.left hHeld).size
            go_simp
            try go_wp2_with fail
            refine out_gen hK _ _ (fun wz : World => Kp (Below w.heap.size w wz) ∧ Kp (wz.heap[w.heap.size]? = some (.cells #[.slice pa C.parts.length pc, .slice (some ⟨g, o, none⟩) C.chans.length cc, .int .i64 C.l0, .slice a0 C.w0.length c0, .int .i64 C.l1, .slice a1 C.w1.length c1] 29 (0, 0))) ∧ Kp (wz.heap[bx]? = some (.cells #[.slice pa C.parts.length pc, (.slice av k cv), .int .i64 C.l0, .slice a0 C.w0.length c0, .int .i64 C.l1, .slice a1 C.w1.length c1] 29 (0, 0))) ∧ Kp (wz.heap[by_]? = some (.cells #[.slice pa C.parts.length pc, .slice (some ⟨ga, 0, none⟩) (C.chans.length + 1) ca2, .int .i64 C.l0, .slice a0 C.w0.length c0, .int .i64 C.l1, .slice a1 C.w1.length c1] 29 (0, 0))) ∧ Kp (ButS [bx] w4 wz) ∧ Kp (wz.ownsRow (w4.heap.size) 40 7 ((.slice av k cv)) (k) (rotK C n k)) ∧ Kp (wz.heap[wd1.heap.size]? = some (.cells #[.int .i64 x.kind, .int .i64 x.frm, .int .i64 x.to, .int .i64 x.words, .int .i64 x.depth, .int .i64 x.period, .int .u32 x.boot] 40 (0, 0))) ∧ wd1.heap.size < wz.heap.size) ⟨⟨below_al HB.out _⟩, ⟨blk_al HK.out _⟩, ⟨blk_al HX.out _⟩, ⟨blk_al HY.out _⟩, ⟨ButS.al HBU.out _⟩, ⟨HO.out.alloc _⟩, ⟨blk_new wd1 _⟩, (by simp)⟩ (sx_of1 (ButB.al (And.left hHeld) _)) (fun wd2 hRn hHn => ?_)
            clear hK K hHeld HB HK HX HY HBU HO
            obtain ⟨HB, HK, HX, HY, HBU, HO, HE, hsz2⟩ := hRn
            have hHeld := hHn
            clear hHn
            try simp only [Act.put, List.setIfInBounds_toArray, List.set_cons_zero, List.set_cons_succ]
            have lt_HE := blk_lt HE.out
            refine wpAnyH_ready (rs := [15]) (by kernel_rfl) (by simp) ?_
            refine (AllReadyH.cons (o := ⟨_, _, _, _, _, _⟩) rfl (fun K hK => ?_) AllReadyH.nil)
            have hws := (And.left hHeld).size
            refine step_append_lies _ (by rfl) _ _ 23 (by rfl) (w4.heap.size) 40 i0 (.agg #[.int .i64 0, .int .i64 0, .int .i64 0, .int .i64 0, .int .i64 0, .int .i64 0, .int .u32 0]) 7 56 Try.underlying23 hi hz0 hz1 hz2 (by rfl) (by decide) _ _ _ (by rfl) HO.out _ 1 _ (chanC x) (by rfl) rfl (World.news_of_block HE.out) (chan_one _) (by omega) (by unfold maxLen; omega) (by omega) (by have := hws; omega) _ rfl ?_
            intro g3 k3 w9 hown hgrow hat hlt
            refine out_gen hK _ _ (fun wz : World => Kp (Below w.heap.size w wz) ∧ Kp (wz.heap[w.heap.size]? = some (.cells #[.slice pa C.parts.length pc, .slice (some ⟨g, o, none⟩) C.chans.length cc, .int .i64 C.l0, .slice a0 C.w0.length c0, .int .i64 C.l1, .slice a1 C.w1.length c1] 29 (0, 0))) ∧ Kp (wz.heap[bx]? = some (.cells #[.slice pa C.parts.length pc, (.slice av k cv), .int .i64 C.l0, .slice a0 C.w0.length c0, .int .i64 C.l1, .slice a1 C.w1.length c1] 29 (0, 0))) ∧ Kp (wz.heap[by_]? = some (.cells #[.slice pa C.parts.length pc, .slice (some ⟨ga, 0, none⟩) (C.chans.length + 1) ca2, .int .i64 C.l0, .slice a0 C.w0.length c0, .int .i64 C.l1, .slice a1 C.w1.length c1] 29 (0, 0))) ∧ Kp (ButS [bx] w4 wz) ∧ Kp (wz.ownsRow (w4.heap.size) 40 7 (.slice (some ⟨g3, 0, none⟩) (k + 1) k3) (k + 1) (rotK C n (k + 1))) ∧ wd2.heap.size ≤ wz.heap.size) ⟨⟨below_own2 HB.out (by have := HB.out.size; omega) (by omega) HO.out hgrow⟩, ⟨blk_grownR HK.out HO.out hgrow (by first | (intro hq; have := (HO.out.lt _ hq).1; omega) | (intro hq; simp [Value.ownBlock] at hq; omega))⟩, ⟨blk_grownR HX.out HO.out hgrow (by first | (intro hq; have := (HO.out.lt _ hq).1; omega) | (intro hq; simp [Value.ownBlock] at hq; omega))⟩, ⟨blk_grownR HY.out HO.out hgrow (by first | (intro hq; have := (HO.out.lt _ hq).1; omega) | (intro hq; simp [Value.ownBlock] at hq; omega))⟩, ⟨ButS.grown HBU.out HO.out hgrow (by omega)⟩, ⟨by rw [HN.out]; exact hown⟩, hgrow.size⟩ (sx_of1 (ButB.grown (And.left hHeld) HO.out hgrow (by omega))) (fun wd3 hRn hHn => ?_)
            clear hK K hHeld HB HK HX HY HBU HO HE hown hgrow hat hlt hws
            obtain ⟨HB, HK, HX, HY, HBU, HO, hsz3⟩ := hRn
            have hHeld := hHn
            clear hHn
            try simp only [Act.put, List.setIfInBounds_toArray, List.set_cons_zero, List.set_cons_succ]
            try simp only [Nat.zero_add]
            refine wpAnyH_take (i := 16) (oi := ⟨_, _, _, _, _, _⟩) (v := ?_) rfl (by kernel_rfl) (by kernel_rfl) (by kernel_rfl) (fun _ _ _ h => h) (Or.inl ⟨by rfl, ?_⟩) (by assumption) ?_
            rotate_left 1
            · (intro w hSw; go_simp; try with_reducible rfl)
            try simp only [Act.put, List.setIfInBounds_toArray, List.set_cons_zero, List.set_cons_succ]
            refine wpAnyH_ready (rs := [17]) (by kernel_rfl) (by simp) ?_
            refine (AllReadyH.cons (o := ⟨_, _, _, _, _, _⟩) rfl (fun K hK => ?_) AllReadyH.nil)
            have sd : wd3.cell? ⟨bx, 1, none⟩ = some ((.slice av k cv)) := (cell_blk HX.out 1).trans rfl
            have sf : wd3.frozen? ⟨bx, 1, none⟩ = false := frozen_blk HX.out 1
            have sl := blk_lt HX.out
            go_simp
            try go_wp2_with fail
            refine out_gen hK _ _ (fun wz : World => Kp (Below w.heap.size w wz) ∧ Kp (wz.heap[w.heap.size]? = some (.cells #[.slice pa C.parts.length pc, .slice (some ⟨g, o, none⟩) C.chans.length cc, .int .i64 C.l0, .slice a0 C.w0.length c0, .int .i64 C.l1, .slice a1 C.w1.length c1] 29 (0, 0))) ∧ Kp (wz.heap[bx]? = some (.cells #[.slice pa C.parts.length pc, .slice (some ⟨g3, 0, none⟩) (k + 1) k3, .int .i64 C.l0, .slice a0 C.w0.length c0, .int .i64 C.l1, .slice a1 C.w1.length c1] 29 (0, 0))) ∧ Kp (wz.heap[by_]? = some (.cells #[.slice pa C.parts.length pc, .slice (some ⟨ga, 0, none⟩) (C.chans.length + 1) ca2, .int .i64 C.l0, .slice a0 C.w0.length c0, .int .i64 C.l1, .slice a1 C.w1.length c1] 29 (0, 0))) ∧ Kp (ButS [bx] w4 wz) ∧ Kp (wz.ownsRow (w4.heap.size) 40 7 (.slice (some ⟨g3, 0, none⟩) (k + 1) k3) (k + 1) (rotK C n (k + 1))) ∧ wd3.heap.size ≤ wz.heap.size) ⟨⟨HB.out.setCell (p := ⟨bx, 1, none⟩) (by show w.heap.size ≤ bx; omega) _⟩, ⟨blk_set_ne (p := ⟨bx, 1, none⟩) HK.out (by show w.heap.size ≠ bx; omega) _⟩, ⟨(blk_set HX.out 1 _).trans rfl⟩, ⟨blk_set_ne (p := ⟨bx, 1, none⟩) HY.out (by show by_ ≠ bx; omega) _⟩, ⟨ButS.set HBU.out (p := ⟨bx, 1, none⟩) (by simp) _⟩, ⟨own_set_ne HO.out (p := ⟨bx, 1, none⟩) (by show bx < w4.heap.size; omega) _⟩, (by simp [World.setCell])⟩ (sx_of1 (ButB.set (And.left hHeld) (p := ⟨bx, 1, none⟩) (by first | (left; simp; done) | (right; show w4.heap.size ≤ bx; omega)) _)) (fun wd4 hRn hHn => ?_)
            clear hK K hHeld HB HK HX HY HBU HO sd sf sl
            obtain ⟨HB, HK, HX, HY, HBU, HO, hsz4⟩ := hRn
            have hHeld := hHn
            clear hHn
            try simp only [Act.put, List.setIfInBounds_toArray, List.set_cons_zero, List.set_cons_succ]
            refine wpAnyH_done (by kernel_rfl) ?_ _
            go_wp2
            go_roundw
            case rel => exact ⟨k + 1, _, by omega, by go_num, HB, HK, HX, HY, HBU, HO⟩
            case measure => simp [intOf]; omega
          · have ge_HE : wr.heap.size ≤ wd0.heap.size := (And.left hHeld).size
            go_simp
            try go_wp2_with fail
            refine out_gen hK _ _ (fun wz : World => Kp (Below w.heap.size w wz) ∧ Kp (wz.heap[w.heap.size]? = some (.cells #[.slice pa C.parts.length pc, .slice (some ⟨g, o, none⟩) C.chans.length cc, .int .i64 C.l0, .slice a0 C.w0.length c0, .int .i64 C.l1, .slice a1 C.w1.length c1] 29 (0, 0))) ∧ Kp (wz.heap[bx]? = some (.cells #[.slice pa C.parts.length pc, (.slice av k cv), .int .i64 C.l0, .slice a0 C.w0.length c0, .int .i64 C.l1, .slice a1 C.w1.length c1] 29 (0, 0))) ∧ Kp (wz.heap[by_]? = some (.cells #[.slice pa C.parts.length pc, .slice (some ⟨ga, 0, none⟩) (C.chans.length + 1) ca2, .int .i64 C.l0, .slice a0 C.w0.length c0, .int .i64 C.l1, .slice a1 C.w1.length c1] 29 (0, 0))) ∧ Kp (ButS [bx] w4 wz) ∧ Kp (wz.ownsRow (w4.heap.size) 40 7 ((.slice av k cv)) (k) (rotK C n k)) ∧ Kp (wz.heap[wd0.heap.size]? = some (.cells #[.int .i64 x.kind, .int .i64 x.frm, .int .i64 x.to, .int .i64 x.words, .int .i64 x.depth, .int .i64 x.period, .int .u32 x.boot] 40 (0, 0))) ∧ wd0.heap.size < wz.heap.size) ⟨⟨below_al HB.out _⟩, ⟨blk_al HK.out _⟩, ⟨blk_al HX.out _⟩, ⟨blk_al HY.out _⟩, ⟨ButS.al HBU.out _⟩, ⟨HO.out.alloc _⟩, ⟨blk_new wd0 _⟩, (by simp)⟩ (sx_of1 (ButB.al (And.left hHeld) _)) (fun wd5 hRn hHn => ?_)
            clear hK K hHeld HB HK HX HY HBU HO
            obtain ⟨HB, HK, HX, HY, HBU, HO, HE, hsz5⟩ := hRn
            have hHeld := hHn
            clear hHn
            try simp only [Act.put, List.setIfInBounds_toArray, List.set_cons_zero, List.set_cons_succ]
            have lt_HE := blk_lt HE.out
            refine wpAnyH_ready (rs := [1]) (by kernel_rfl) (by simp) ?_
            refine (AllReadyH.cons (o := ⟨_, _, _, _, _, _⟩) rfl (fun K hK => ?_) AllReadyH.nil)
            have sd1 : wd5.cell? ⟨bx, 1, none⟩ = some ((.slice av k cv)) := (cell_blk HX.out 1).trans rfl
            have sl := blk_lt HX.out
            go_simp
            try go_wp2_with fail
            refine out_gen hK _ _ (fun wz : World => Kp (Below w.heap.size w wz) ∧ Kp (wz.heap[w.heap.size]? = some (.cells #[.slice pa C.parts.length pc, .slice (some ⟨g, o, none⟩) C.chans.length cc, .int .i64 C.l0, .slice a0 C.w0.length c0, .int .i64 C.l1, .slice a1 C.w1.length c1] 29 (0, 0))) ∧ Kp (wz.heap[bx]? = some (.cells #[.slice pa C.parts.length pc, (.slice av k cv), .int .i64 C.l0, .slice a0 C.w0.length c0, .int .i64 C.l1, .slice a1 C.w1.length c1] 29 (0, 0))) ∧ Kp (wz.heap[by_]? = some (.cells #[.slice pa C.parts.length pc, .slice (some ⟨ga, 0, none⟩) (C.chans.length + 1) ca2, .int .i64 C.l0, .slice a0 C.w0.length c0, .int .i64 C.l1, .slice a1 C.w1.length c1] 29 (0, 0))) ∧ Kp (ButS [bx] w4 wz) ∧ Kp (wz.ownsRow (w4.heap.size) 40 7 ((.slice av k cv)) (k) (rotK C n k)) ∧ Kp (wz.heap[wd0.heap.size]? = some (.cells #[.int .i64 x.kind, .int .i64 x.frm, .int .i64 x.to, .int .i64 x.words, .int .i64 x.depth, .int .i64 x.period, .int .u32 x.boot] 40 (0, 0))) ∧ wd5.heap.size ≤ wz.heap.size) ⟨⟨HB.out⟩, ⟨HK.out⟩, ⟨HX.out⟩, ⟨HY.out⟩, ⟨HBU.out⟩, ⟨HO.out⟩, ⟨HE.out⟩, Nat.le_refl _⟩ (sx_of1 ((And.left hHeld))) (fun wd6 hRn hHn => ?_)
            clear hK K hHeld HB HK HX HY HBU HO HE  sd1 sl
            obtain ⟨HB, HK, HX, HY, HBU, HO, HE, hsz6⟩ := hRn
            have hHeld := hHn
            clear hHn
            try simp only [Act.put, List.setIfInBounds_toArray, List.set_cons_zero, List.set_cons_succ]
            refine wpAnyH_ready (rs := [15]) (by kernel_rfl) (by simp) ?_
            refine (AllReadyH.cons (o := ⟨_, _, _, _, _, _⟩) rfl (fun K hK => ?_) AllReadyH.nil)
            have hws := (And.left hHeld).size
            refine step_append_lies _ (by rfl) _ _ 23 (by rfl) (w4.heap.size) 40 i0 (.agg #[.int .i64 0, .int .i64 0, .int .i64 0, .int .i64 0, .int .i64 0, .int .i64 0, .int .u32 0]) 7 56 Try.underlying23 hi hz0 hz1 hz2 (by rfl) (by decide) _ _ _ (by rfl) HO.out _ 1 _ (chanC x) (by rfl) rfl (World.news_of_block HE.out) (chan_one _) (by omega) (by unfold maxLen; omega) (by omega) (by have := hws; omega) _ rfl ?_
            intro g3 k3 w9 hown hgrow hat hlt
            refine out_gen hK _ _ (fun wz : World => Kp (Below w.heap.size w wz) ∧ Kp (wz.heap[w.heap.size]? = some (.cells #[.slice pa C.parts.length pc, .slice (some ⟨g, o, none⟩) C.chans.length cc, .int .i64 C.l0, .slice a0 C.w0.length c0, .int .i64 C.l1, .slice a1 C.w1.length c1] 29 (0, 0))) ∧ Kp (wz.heap[bx]? = some (.cells #[.slice pa C.parts.length pc, (.slice av k cv), .int .i64 C.l0, .slice a0 C.w0.length c0, .int .i64 C.l1, .slice a1 C.w1.length c1] 29 (0, 0))) ∧ Kp (wz.heap[by_]? = some (.cells #[.slice pa C.parts.length pc, .slice (some ⟨ga, 0, none⟩) (C.chans.length + 1) ca2, .int .i64 C.l0, .slice a0 C.w0.length c0, .int .i64 C.l1, .slice a1 C.w1.length c1] 29 (0, 0))) ∧ Kp (ButS [bx] w4 wz) ∧ Kp (wz.ownsRow (w4.heap.size) 40 7 (.slice (some ⟨g3, 0, none⟩) (k + 1) k3) (k + 1) (rotK C n (k + 1))) ∧ wd6.heap.size ≤ wz.heap.size) ⟨⟨below_own2 HB.out (by have := HB.out.size; omega) (by omega) HO.out hgrow⟩, ⟨blk_grownR HK.out HO.out hgrow (by first | (intro hq; have := (HO.out.lt _ hq).1; omega) | (intro hq; simp [Value.ownBlock] at hq; omega))⟩, ⟨blk_grownR HX.out HO.out hgrow (by first | (intro hq; have := (HO.out.lt _ hq).1; omega) | (intro hq; simp [Value.ownBlock] at hq; omega))⟩, ⟨blk_grownR HY.out HO.out hgrow (by first | (intro hq; have := (HO.out.lt _ hq).1; omega) | (intro hq; simp [Value.ownBlock] at hq; omega))⟩, ⟨ButS.grown HBU.out HO.out hgrow (by omega)⟩, ⟨by rw [HN.out]; exact hown⟩, hgrow.size⟩ (sx_of1 (ButB.grown (And.left hHeld) HO.out hgrow (by omega))) (fun wd7 hRn hHn => ?_)
            clear hK K hHeld HB HK HX HY HBU HO HE hown hgrow hat hlt hws
            obtain ⟨HB, HK, HX, HY, HBU, HO, hsz7⟩ := hRn
            have hHeld := hHn
            clear hHn
            try simp only [Act.put, List.setIfInBounds_toArray, List.set_cons_zero, List.set_cons_succ]
            try simp only [Nat.zero_add]
            refine wpAnyH_take (i := 16) (oi := ⟨_, _, _, _, _, _⟩) (v := ?_) rfl (by kernel_rfl) (by kernel_rfl) (by kernel_rfl) (fun _ _ _ h => h) (Or.inl ⟨by rfl, ?_⟩) (by assumption) ?_
            rotate_left 1
            · (intro w hSw; go_simp; try with_reducible rfl)
            try simp only [Act.put, List.setIfInBounds_toArray, List.set_cons_zero, List.set_cons_succ]
            refine wpAnyH_ready (rs := [17]) (by kernel_rfl) (by simp) ?_
            refine (AllReadyH.cons (o := ⟨_, _, _, _, _, _⟩) rfl (fun K hK => ?_) AllReadyH.nil)
            have sd : wd7.cell? ⟨bx, 1, none⟩ = some ((.slice av k cv)) := (cell_blk HX.out 1).trans rfl
            have sf : wd7.frozen? ⟨bx, 1, none⟩ = false := frozen_blk HX.out 1
            have sl := blk_lt HX.out
            go_simp
            try go_wp2_with fail
            refine out_gen hK _ _ (fun wz : World => Kp (Below w.heap.size w wz) ∧ Kp (wz.heap[w.heap.size]? = some (.cells #[.slice pa C.parts.length pc, .slice (some ⟨g, o, none⟩) C.chans.length cc, .int .i64 C.l0, .slice a0 C.w0.length c0, .int .i64 C.l1, .slice a1 C.w1.length c1] 29 (0, 0))) ∧ Kp (wz.heap[bx]? = some (.cells #[.slice pa C.parts.length pc, .slice (some ⟨g3, 0, none⟩) (k + 1) k3, .int .i64 C.l0, .slice a0 C.w0.length c0, .int .i64 C.l1, .slice a1 C.w1.length c1] 29 (0, 0))) ∧ Kp (wz.heap[by_]? = some (.cells #[.slice pa C.parts.length pc, .slice (some ⟨ga, 0, none⟩) (C.chans.length + 1) ca2, .int .i64 C.l0, .slice a0 C.w0.length c0, .int .i64 C.l1, .slice a1 C.w1.length c1] 29 (0, 0))) ∧ Kp (ButS [bx] w4 wz) ∧ Kp (wz.ownsRow (w4.heap.size) 40 7 (.slice (some ⟨g3, 0, none⟩) (k + 1) k3) (k + 1) (rotK C n (k + 1))) ∧ wd7.heap.size ≤ wz.heap.size) ⟨⟨HB.out.setCell (p := ⟨bx, 1, none⟩) (by show w.heap.size ≤ bx; omega) _⟩, ⟨blk_set_ne (p := ⟨bx, 1, none⟩) HK.out (by show w.heap.size ≠ bx; omega) _⟩, ⟨(blk_set HX.out 1 _).trans rfl⟩, ⟨blk_set_ne (p := ⟨bx, 1, none⟩) HY.out (by show by_ ≠ bx; omega) _⟩, ⟨ButS.set HBU.out (p := ⟨bx, 1, none⟩) (by simp) _⟩, ⟨own_set_ne HO.out (p := ⟨bx, 1, none⟩) (by show bx < w4.heap.size; omega) _⟩, (by simp [World.setCell])⟩ (sx_of1 (ButB.set (And.left hHeld) (p := ⟨bx, 1, none⟩) (by first | (left; simp; done) | (right; show w4.heap.size ≤ bx; omega)) _)) (fun wd8 hRn hHn => ?_)
            clear hK K hHeld HB HK HX HY HBU HO sd sf sl
            obtain ⟨HB, HK, HX, HY, HBU, HO, hsz8⟩ := hRn
            have hHeld := hHn
            clear hHn
            try simp only [Act.put, List.setIfInBounds_toArray, List.set_cons_zero, List.set_cons_succ]
            refine wpAnyH_done (by kernel_rfl) ?_ _
            go_wp2
            go_roundw
            case rel => exact ⟨k + 1, _, by omega, by go_num, HB, HK, HX, HY, HBU, HO⟩
            case measure => simp [intOf]; omega
        · obtain rfl : k = C.chans.length := by omega
          have x0 : wr.cell? ⟨bx, 0, none⟩ = some (.slice pa C.parts.length pc) := (cell_blk HX.out 0).trans rfl
          have x1 : wr.cell? ⟨bx, 1, none⟩ = some (.slice av C.chans.length cv) := (cell_blk HX.out 1).trans rfl
          have x2 : wr.cell? ⟨bx, 2, none⟩ = some (.int .i64 C.l0) := (cell_blk HX.out 2).trans rfl
          have x3 : wr.cell? ⟨bx, 3, none⟩ = some (.slice a0 C.w0.length c0) := (cell_blk HX.out 3).trans rfl
          have x4 : wr.cell? ⟨bx, 4, none⟩ = some (.int .i64 C.l1) := (cell_blk HX.out 4).trans rfl
          have x5 : wr.cell? ⟨bx, 5, none⟩ = some (.slice a1 C.w1.length c1) := (cell_blk HX.out 5).trans rfl
          have lx := blk_lt HX.out
          have y0 : wr.cell? ⟨by_, 0, none⟩ = some (.slice pa C.parts.length pc) := (cell_blk HY.out 0).trans rfl
          have y1 : wr.cell? ⟨by_, 1, none⟩ = some (.slice (some ⟨ga, 0, none⟩) (C.chans.length + 1) ca2) := (cell_blk HY.out 1).trans rfl
          have y2 : wr.cell? ⟨by_, 2, none⟩ = some (.int .i64 C.l0) := (cell_blk HY.out 2).trans rfl
          have y3 : wr.cell? ⟨by_, 3, none⟩ = some (.slice a0 C.w0.length c0) := (cell_blk HY.out 3).trans rfl
          have y4 : wr.cell? ⟨by_, 4, none⟩ = some (.int .i64 C.l1) := (cell_blk HY.out 4).trans rfl
          have y5 : wr.cell? ⟨by_, 5, none⟩ = some (.slice a1 C.w1.length c1) := (cell_blk HY.out 5).trans rfl
          have ly := blk_lt HY.out
          have hsmX : (withCh C (rotC C.chans n)).small := ⟨hsm.1, by show (rotC C.chans n).length ≤ 200; rw [rotC_len]; exact hsm.2.1, hsm.2.2⟩
          have hsmY : (withCh C (C.chans ++ [x])).small := ⟨hsm.1, by show (C.chans ++ [x]).length ≤ 200; rw [List.length_append, List.length_singleton]; have := small_chans hg; omega, hsm.2.2⟩
          have HCC : Kp (CfgAt wr (.agg #[.slice pa C.parts.length pc, .slice (some ⟨g, o, none⟩) C.chans.length cc, .int .i64 C.l0, .slice a0 C.w0.length c0, .int .i64 C.l1, .slice a1 C.w1.length c1]) C) := ⟨HC.out.below HB.out⟩
          have HCX : Kp (CfgAt wr (.agg #[.slice pa C.parts.length pc, .slice av C.chans.length cv, .int .i64 C.l0, .slice a0 C.w0.length c0, .int .i64 C.l1, .slice a1 C.w1.length c1]) (withCh C (rotC C.chans n))) := ⟨cfgAt_with HCC.out (rotC C.chans n) (rotC_ok HCC.out.1.2.1) (rotC_len _ _) hv1 hv2 (by have h := RowAt.of_own HO.out; rw [rotK_all] at h; exact h)⟩
          have HCY : Kp (CfgAt wr (.agg #[.slice pa C.parts.length pc, .slice (some ⟨ga, 0, none⟩) (C.chans.length + 1) ca2, .int .i64 C.l0, .slice a0 C.w0.length c0, .int .i64 C.l1, .slice a1 C.w1.length c1]) (withCh C (C.chans ++ [x]))) := ⟨cfgAt_with HCC.out (C.chans ++ [x]) (twice_ok HCC.out.1.2.1 HXM.out) (by simp) (RowAt.lens HR.out).1 (RowAt.lens HR.out).2 (by rw [List.flatMap_append]; simp only [List.flatMap_cons, List.flatMap_nil, List.append_nil]; exact HR.out.but HBU.out (fun y hy => by cases hy; simpa using hgab))⟩
          have HRD : Kp ((defsB (withCh C (rotC C.chans n))).take (99 : Int).toNat = (defsB C).take (99 : Int).toNat) := ⟨by rw [rot_defs]⟩
          obtain ⟨q, HQ⟩ : ∃ q, Kp ((defsB C).take (99 : Int).toNat = q) := ⟨_, ⟨rfl⟩⟩
          go_wp2_with fail
          refine held_start_gen (S := (fun w' : World => ButB (wr.heap.size) [] wr w' ∧ ∀ b o, b < wr.heap.size → w'.cell? ⟨b, o, none⟩ = wr.cell? ⟨b, o, none⟩)) (by kernel_rfl) (fun wz : World => Kp (Below w.heap.size w wz) ∧ Kp (wz.heap[w.heap.size]? = some (.cells #[.slice pa C.parts.length pc, .slice (some ⟨g, o, none⟩) C.chans.length cc, .int .i64 C.l0, .slice a0 C.w0.length c0, .int .i64 C.l1, .slice a1 C.w1.length c1] 29 (0, 0))) ∧ Kp (wz.heap[bx]? = some (.cells #[.slice pa C.parts.length pc, (.slice av C.chans.length cv), .int .i64 C.l0, .slice a0 C.w0.length c0, .int .i64 C.l1, .slice a1 C.w1.length c1] 29 (0, 0))) ∧ Kp (wz.heap[by_]? = some (.cells #[.slice pa C.parts.length pc, .slice (some ⟨ga, 0, none⟩) (C.chans.length + 1) ca2, .int .i64 C.l0, .slice a0 C.w0.length c0, .int .i64 C.l1, .slice a1 C.w1.length c1] 29 (0, 0))) ∧ Kp (CfgAt wz (.agg #[.slice pa C.parts.length pc, .slice av C.chans.length cv, .int .i64 C.l0, .slice a0 C.w0.length c0, .int .i64 C.l1, .slice a1 C.w1.length c1]) (withCh C (rotC C.chans n))) ∧ Kp (CfgAt wz (.agg #[.slice pa C.parts.length pc, .slice (some ⟨ga, 0, none⟩) (C.chans.length + 1) ca2, .int .i64 C.l0, .slice a0 C.w0.length c0, .int .i64 C.l1, .slice a1 C.w1.length c1]) (withCh C (C.chans ++ [x]))) ∧ Kp (CfgAt wz (.agg #[.slice pa C.parts.length pc, .slice (some ⟨g, o, none⟩) C.chans.length cc, .int .i64 C.l0, .slice a0 C.w0.length c0, .int .i64 C.l1, .slice a1 C.w1.length c1]) C) ∧ wr.heap.size ≤ wz.heap.size) ⟨⟨below_dr HB.out⟩, ⟨blk_dr HK.out⟩, ⟨blk_dr HX.out⟩, ⟨blk_dr HY.out⟩, ⟨HCX.out.below (below_dr (Below.refl _ _))⟩, ⟨HCY.out.below (below_dr (Below.refl _ _))⟩, ⟨HCC.out.below (below_dr (Below.refl _ _))⟩, Nat.le_refl _⟩ (sx_of0 (ButB.dr (ButB.refl _ (by omega)))) (fun wd0 hRn hHeld => ?_)
          clear HB HK HX HY HCX HCY HCC
          obtain ⟨HB, HK, HX, HY, HCX, HCY, HCC, hsz⟩ := hRn
          refine wpAnyH_take (i := 0) (oi := ⟨_, _, _, _, _, _⟩) (v := ?_) rfl (by kernel_rfl) (by kernel_rfl) (by kernel_rfl) (fun _ _ _ h => h) (Or.inl ⟨by rfl, ?_⟩) (by assumption) ?_
          rotate_left 1
          · (intro w hSw; go_simp; try with_reducible rfl)
          try simp only [Act.put, List.setIfInBounds_toArray, List.set_cons_zero, List.set_cons_succ]
          refine wpAnyH_take (i := 2) (oi := ⟨_, _, _, _, _, _⟩) (v := ?_) rfl (by kernel_rfl) (by kernel_rfl) (by kernel_rfl) (fun _ _ _ h => h) (Or.inl ⟨by rfl, ?_⟩) (by assumption) ?_
          rotate_left 1
          · (intro w hSw; go_simp; try with_reducible rfl)
          try simp only [Act.put, List.setIfInBounds_toArray, List.set_cons_zero, List.set_cons_succ]
          refine wpAnyH_ready (rs := [1]) (by kernel_rfl) (by simp) ?_
          refine (AllReadyH.cons (o := ⟨_, _, _, _, _, _⟩) rfl (fun K hK => ?_) AllReadyH.nil)
          go_simp
          go_at_call 16
          refine (told7_any 99 _ (withCh C (rotC C.chans n)) hsmX _ HCX.out).mono ?_
          rw [HRD.out, HQ.out]
          rintro e w9 ⟨v1, rfl, hown, hb⟩
          try go_wp2_with fail
          refine out_gen hK _ _ (fun wz : World => Kp (Below w.heap.size w wz) ∧ Kp (wz.heap[w.heap.size]? = some (.cells #[.slice pa C.parts.length pc, .slice (some ⟨g, o, none⟩) C.chans.length cc, .int .i64 C.l0, .slice a0 C.w0.length c0, .int .i64 C.l1, .slice a1 C.w1.length c1] 29 (0, 0))) ∧ Kp (wz.heap[bx]? = some (.cells #[.slice pa C.parts.length pc, (.slice av C.chans.length cv), .int .i64 C.l0, .slice a0 C.w0.length c0, .int .i64 C.l1, .slice a1 C.w1.length c1] 29 (0, 0))) ∧ Kp (wz.heap[by_]? = some (.cells #[.slice pa C.parts.length pc, .slice (some ⟨ga, 0, none⟩) (C.chans.length + 1) ca2, .int .i64 C.l0, .slice a0 C.w0.length c0, .int .i64 C.l1, .slice a1 C.w1.length c1] 29 (0, 0))) ∧ Kp (CfgAt wz (.agg #[.slice pa C.parts.length pc, .slice av C.chans.length cv, .int .i64 C.l0, .slice a0 C.w0.length c0, .int .i64 C.l1, .slice a1 C.w1.length c1]) (withCh C (rotC C.chans n))) ∧ Kp (CfgAt wz (.agg #[.slice pa C.parts.length pc, .slice (some ⟨ga, 0, none⟩) (C.chans.length + 1) ca2, .int .i64 C.l0, .slice a0 C.w0.length c0, .int .i64 C.l1, .slice a1 C.w1.length c1]) (withCh C (C.chans ++ [x]))) ∧ Kp (CfgAt wz (.agg #[.slice pa C.parts.length pc, .slice (some ⟨g, o, none⟩) C.chans.length cc, .int .i64 C.l0, .slice a0 C.w0.length c0, .int .i64 C.l1, .slice a1 C.w1.length c1]) C) ∧ Kp (RowAt wz 1 v1 q.length (i64s q)) ∧ wd0.heap.size ≤ wz.heap.size) ⟨⟨below_call HB.out hb⟩, ⟨blk_below HK.out hb⟩, ⟨blk_below HX.out hb⟩, ⟨blk_below HY.out hb⟩, ⟨HCX.out.below hb⟩, ⟨HCY.out.below hb⟩, ⟨HCC.out.below hb⟩, ⟨RowAt.of_own hown⟩, hb.size⟩ (sx_of0 (ButB.call (And.left hHeld) hb)) (fun wd1 hRn hHn => ?_)
          clear hK K hHeld HB HK HX HY HCX HCY HCC hown hb
          obtain ⟨HB, HK, HX, HY, HCX, HCY, HCC, OW1, hsz1⟩ := hRn
          have hHeld := hHn
          clear hHn
          try simp only [Act.put, List.setIfInBounds_toArray, List.set_cons_zero, List.set_cons_succ]
          refine wpAnyH_ready (rs := [3]) (by kernel_rfl) (by simp) ?_
          refine (AllReadyH.cons (o := ⟨_, _, _, _, _, _⟩) rfl (fun K hK => ?_) AllReadyH.nil)
          go_simp
          go_at_call 16
          refine (told7_any 99 _ C hsm _ HCC.out).mono ?_
          rw [HQ.out]
          rintro e w9 ⟨v2, rfl, hown, hb⟩
          try go_wp2_with fail
          refine out_gen hK _ _ (fun wz : World => Kp (Below w.heap.size w wz) ∧ Kp (wz.heap[w.heap.size]? = some (.cells #[.slice pa C.parts.length pc, .slice (some ⟨g, o, none⟩) C.chans.length cc, .int .i64 C.l0, .slice a0 C.w0.length c0, .int .i64 C.l1, .slice a1 C.w1.length c1] 29 (0, 0))) ∧ Kp (wz.heap[bx]? = some (.cells #[.slice pa C.parts.length pc, (.slice av C.chans.length cv), .int .i64 C.l0, .slice a0 C.w0.length c0, .int .i64 C.l1, .slice a1 C.w1.length c1] 29 (0, 0))) ∧ Kp (wz.heap[by_]? = some (.cells #[.slice pa C.parts.length pc, .slice (some ⟨ga, 0, none⟩) (C.chans.length + 1) ca2, .int .i64 C.l0, .slice a0 C.w0.length c0, .int .i64 C.l1, .slice a1 C.w1.length c1] 29 (0, 0))) ∧ Kp (CfgAt wz (.agg #[.slice pa C.parts.length pc, .slice av C.chans.length cv, .int .i64 C.l0, .slice a0 C.w0.length c0, .int .i64 C.l1, .slice a1 C.w1.length c1]) (withCh C (rotC C.chans n))) ∧ Kp (CfgAt wz (.agg #[.slice pa C.parts.length pc, .slice (some ⟨ga, 0, none⟩) (C.chans.length + 1) ca2, .int .i64 C.l0, .slice a0 C.w0.length c0, .int .i64 C.l1, .slice a1 C.w1.length c1]) (withCh C (C.chans ++ [x]))) ∧ Kp (CfgAt wz (.agg #[.slice pa C.parts.length pc, .slice (some ⟨g, o, none⟩) C.chans.length cc, .int .i64 C.l0, .slice a0 C.w0.length c0, .int .i64 C.l1, .slice a1 C.w1.length c1]) C) ∧ Kp (RowAt wz 1 v1 q.length (i64s q)) ∧ Kp (RowAt wz 1 v2 q.length (i64s q)) ∧ wd1.heap.size ≤ wz.heap.size) ⟨⟨below_call HB.out hb⟩, ⟨blk_below HK.out hb⟩, ⟨blk_below HX.out hb⟩, ⟨blk_below HY.out hb⟩, ⟨HCX.out.below hb⟩, ⟨HCY.out.below hb⟩, ⟨HCC.out.below hb⟩, ⟨OW1.out.below hb⟩, ⟨RowAt.of_own hown⟩, hb.size⟩ (sx_of0 (ButB.call (And.left hHeld) hb)) (fun wd2 hRn hHn => ?_)
          clear hK K hHeld HB HK HX HY HCX HCY HCC OW1 hown hb
          obtain ⟨HB, HK, HX, HY, HCX, HCY, HCC, OW1, OW2, hsz2⟩ := hRn
          have hHeld := hHn
          clear hHn
          try simp only [Act.put, List.setIfInBounds_toArray, List.set_cons_zero, List.set_cons_succ]
          refine wpAnyH_ready (rs := [4]) (by kernel_rfl) (by simp) ?_
          refine (AllReadyH.cons (o := ⟨_, _, _, _, _, _⟩) rfl (fun K hK => ?_) AllReadyH.nil)
          go_simp
          go_at_call 15
          refine (rsame_any _ _ q q true (by simp) _ OW1.out OW2.out).mono ?_
          rintro e w9 ⟨rfl, hb⟩
          try go_wp2_with fail
          refine out_gen hK _ _ (fun wz : World => Kp (Below w.heap.size w wz) ∧ Kp (wz.heap[w.heap.size]? = some (.cells #[.slice pa C.parts.length pc, .slice (some ⟨g, o, none⟩) C.chans.length cc, .int .i64 C.l0, .slice a0 C.w0.length c0, .int .i64 C.l1, .slice a1 C.w1.length c1] 29 (0, 0))) ∧ Kp (wz.heap[bx]? = some (.cells #[.slice pa C.parts.length pc, (.slice av C.chans.length cv), .int .i64 C.l0, .slice a0 C.w0.length c0, .int .i64 C.l1, .slice a1 C.w1.length c1] 29 (0, 0))) ∧ Kp (wz.heap[by_]? = some (.cells #[.slice pa C.parts.length pc, .slice (some ⟨ga, 0, none⟩) (C.chans.length + 1) ca2, .int .i64 C.l0, .slice a0 C.w0.length c0, .int .i64 C.l1, .slice a1 C.w1.length c1] 29 (0, 0))) ∧ Kp (CfgAt wz (.agg #[.slice pa C.parts.length pc, .slice av C.chans.length cv, .int .i64 C.l0, .slice a0 C.w0.length c0, .int .i64 C.l1, .slice a1 C.w1.length c1]) (withCh C (rotC C.chans n))) ∧ Kp (CfgAt wz (.agg #[.slice pa C.parts.length pc, .slice (some ⟨ga, 0, none⟩) (C.chans.length + 1) ca2, .int .i64 C.l0, .slice a0 C.w0.length c0, .int .i64 C.l1, .slice a1 C.w1.length c1]) (withCh C (C.chans ++ [x]))) ∧ Kp (CfgAt wz (.agg #[.slice pa C.parts.length pc, .slice (some ⟨g, o, none⟩) C.chans.length cc, .int .i64 C.l0, .slice a0 C.w0.length c0, .int .i64 C.l1, .slice a1 C.w1.length c1]) C) ∧ Kp (RowAt wz 1 v1 q.length (i64s q)) ∧ Kp (RowAt wz 1 v2 q.length (i64s q)) ∧ wd2.heap.size ≤ wz.heap.size) ⟨⟨below_call HB.out hb⟩, ⟨blk_below HK.out hb⟩, ⟨blk_below HX.out hb⟩, ⟨blk_below HY.out hb⟩, ⟨HCX.out.below hb⟩, ⟨HCY.out.below hb⟩, ⟨HCC.out.below hb⟩, ⟨OW1.out.below hb⟩, ⟨OW2.out.below hb⟩, hb.size⟩ (sx_of0 (ButB.call (And.left hHeld) hb)) (fun wd3 hRn hHn => ?_)
          clear hK K hHeld HB HK HX HY HCX HCY HCC OW1 OW2 hb
          obtain ⟨HB, HK, HX, HY, HCX, HCY, HCC, OW1, OW2, hsz3⟩ := hRn
          have hHeld := hHn
          clear hHn
          try simp only [Act.put, List.setIfInBounds_toArray, List.set_cons_zero, List.set_cons_succ]
          refine wpAnyH_take (i := 5) (oi := ⟨_, _, _, _, _, _⟩) (v := ?_) rfl (by kernel_rfl) (by kernel_rfl) (by kernel_rfl) (fun _ _ _ h => h) (Or.inl ⟨by rfl, ?_⟩) (by assumption) ?_
          rotate_left 1
          · (intro w hSw; go_simp; try with_reducible rfl)
          try simp only [Act.put, List.setIfInBounds_toArray, List.set_cons_zero, List.set_cons_succ]
          refine wpAnyH_done (by kernel_rfl) ?_ _
        
          clear hHeld OW1 OW2 HX HCX
          go_wp2_with fail
          clear q0 q1 q2 q3 q4 q5 lq x0 x1 x2 x3 x4 x5 lx y0 y1 y2 y3 y4 y5 ly
          go_loopw [8] (fun i wm => ∃ m : Nat, 1 ≤ m ∧ m ≤ 18 ∧ i = .int .i64 m ∧ Kp (Below w.heap.size w wm) ∧ Kp (wm.heap[w.heap.size]? = some (.cells #[.slice pa C.parts.length pc, .slice (some ⟨g, o, none⟩) C.chans.length cc, .int .i64 C.l0, .slice a0 C.w0.length c0, .int .i64 C.l1, .slice a1 C.w1.length c1] 29 (0, 0))) ∧ Kp (wm.heap[by_]? = some (.cells #[.slice pa C.parts.length pc, .slice (some ⟨ga, 0, none⟩) (C.chans.length + 1) ca2, .int .i64 C.l0, .slice a0 C.w0.length c0, .int .i64 C.l1, .slice a1 C.w1.length c1] 29 (0, 0))) ∧ Kp (CfgAt wm (.agg #[.slice pa C.parts.length pc, .slice (some ⟨ga, 0, none⟩) (C.chans.length + 1) ca2, .int .i64 C.l0, .slice a0 C.w0.length c0, .int .i64 C.l1, .slice a1 C.w1.length c1]) (withCh C (C.chans ++ [x]))) ∧ Kp (CfgAt wm (.agg #[.slice pa C.parts.length pc, .slice (some ⟨g, o, none⟩) C.chans.length cc, .int .i64 C.l0, .slice a0 C.w0.length c0, .int .i64 C.l1, .slice a1 C.w1.length c1]) C)) (fun i wm => 18 - (intOf i).toNat)
          case atStart => exact ⟨1, by omega, by omega, rfl, HB, HK, HY, HCY, HCC⟩
          case round =>
            obtain ⟨wm, rfl⟩ : ∃ wm : World, wm = wr := ⟨_, rfl⟩
            obtain ⟨m, hm1, hm2, rfl, HB, HK, HY, HCY, HCC⟩ := hrel
            have q0 : wm.cell? ⟨w.heap.size, 0, none⟩ = some (.slice pa C.parts.length pc) := (cell_blk HK.out 0).trans rfl
            have q1 : wm.cell? ⟨w.heap.size, 1, none⟩ = some (.slice (some ⟨g, o, none⟩) C.chans.length cc) := (cell_blk HK.out 1).trans rfl
            have q2 : wm.cell? ⟨w.heap.size, 2, none⟩ = some (.int .i64 C.l0) := (cell_blk HK.out 2).trans rfl
            have q3 : wm.cell? ⟨w.heap.size, 3, none⟩ = some (.slice a0 C.w0.length c0) := (cell_blk HK.out 3).trans rfl
            have q4 : wm.cell? ⟨w.heap.size, 4, none⟩ = some (.int .i64 C.l1) := (cell_blk HK.out 4).trans rfl
            have q5 : wm.cell? ⟨w.heap.size, 5, none⟩ = some (.slice a1 C.w1.length c1) := (cell_blk HK.out 5).trans rfl
            have lq := blk_lt HK.out
            have y0 : wm.cell? ⟨by_, 0, none⟩ = some (.slice pa C.parts.length pc) := (cell_blk HY.out 0).trans rfl
            have y1 : wm.cell? ⟨by_, 1, none⟩ = some (.slice (some ⟨ga, 0, none⟩) (C.chans.length + 1) ca2) := (cell_blk HY.out 1).trans rfl
            have y2 : wm.cell? ⟨by_, 2, none⟩ = some (.int .i64 C.l0) := (cell_blk HY.out 2).trans rfl
            have y3 : wm.cell? ⟨by_, 3, none⟩ = some (.slice a0 C.w0.length c0) := (cell_blk HY.out 3).trans rfl
            have y4 : wm.cell? ⟨by_, 4, none⟩ = some (.int .i64 C.l1) := (cell_blk HY.out 4).trans rfl
            have y5 : wm.cell? ⟨by_, 5, none⟩ = some (.slice a1 C.w1.length c1) := (cell_blk HY.out 5).trans rfl
            have ly := blk_lt HY.out
            by_cases hm17 : m ≤ 17
            · by_cases hm4 : m = 4
              · subst hm4
                go_wp2_with fail
                refine held_start_gen (S := (fun w' : World => ButB (wm.heap.size) [] wm w' ∧ ∀ b o, b < wm.heap.size → w'.cell? ⟨b, o, none⟩ = wm.cell? ⟨b, o, none⟩)) (by kernel_rfl) (fun wz : World => Kp (Below w.heap.size w wz) ∧ Kp (wz.heap[w.heap.size]? = some (.cells #[.slice pa C.parts.length pc, .slice (some ⟨g, o, none⟩) C.chans.length cc, .int .i64 C.l0, .slice a0 C.w0.length c0, .int .i64 C.l1, .slice a1 C.w1.length c1] 29 (0, 0))) ∧ Kp (wz.heap[by_]? = some (.cells #[.slice pa C.parts.length pc, .slice (some ⟨ga, 0, none⟩) (C.chans.length + 1) ca2, .int .i64 C.l0, .slice a0 C.w0.length c0, .int .i64 C.l1, .slice a1 C.w1.length c1] 29 (0, 0))) ∧ Kp (CfgAt wz (.agg #[.slice pa C.parts.length pc, .slice (some ⟨ga, 0, none⟩) (C.chans.length + 1) ca2, .int .i64 C.l0, .slice a0 C.w0.length c0, .int .i64 C.l1, .slice a1 C.w1.length c1]) (withCh C (C.chans ++ [x]))) ∧ Kp (CfgAt wz (.agg #[.slice pa C.parts.length pc, .slice (some ⟨g, o, none⟩) C.chans.length cc, .int .i64 C.l0, .slice a0 C.w0.length c0, .int .i64 C.l1, .slice a1 C.w1.length c1]) C) ∧ wm.heap.size ≤ wz.heap.size) ⟨⟨below_dr HB.out⟩, ⟨blk_dr HK.out⟩, ⟨blk_dr HY.out⟩, ⟨HCY.out.below (below_dr (Below.refl _ _))⟩, ⟨HCC.out.below (below_dr (Below.refl _ _))⟩, Nat.le_refl _⟩ (sx_of0 (ButB.dr (ButB.refl _ (by omega)))) (fun wd0 hRn hHeld => ?_)
                clear HB HK HY HCY HCC
                obtain ⟨HB, HK, HY, HCY, HCC, hsz⟩ := hRn
                refine wpAnyH_take (i := 0) (oi := ⟨_, _, _, _, _, _⟩) (v := ?_) rfl (by kernel_rfl) (by kernel_rfl) (by kernel_rfl) (fun _ _ _ h => h) (Or.inl ⟨by rfl, ?_⟩) (by assumption) ?_
                rotate_left 1
                · (intro w hSw; go_simp; try with_reducible rfl)
                try simp only [Act.put, List.setIfInBounds_toArray, List.set_cons_zero, List.set_cons_succ]
                refine wpAnyH_take (i := 1) (oi := ⟨_, _, _, _, _, _⟩) (v := ?_) rfl (by kernel_rfl) (by kernel_rfl) (by kernel_rfl) (fun _ _ _ h => h) (Or.inl ⟨by rfl, ?_⟩) (by assumption) ?_
                rotate_left 1
                · (intro w hSw; go_simp; try with_reducible rfl)
                try simp only [Act.put, List.setIfInBounds_toArray, List.set_cons_zero, List.set_cons_succ]
                refine wpAnyH_take (i := 2) (oi := ⟨_, _, _, _, _, _⟩) (v := ?_) rfl (by kernel_rfl) (by kernel_rfl) (by kernel_rfl) (fun _ _ _ h => h) (Or.inl ⟨by rfl, ?_⟩) (by assumption) ?_
                rotate_left 1
                · (intro w hSw; go_simp; try with_reducible rfl)
                try simp only [Act.put, List.setIfInBounds_toArray, List.set_cons_zero, List.set_cons_succ]
                refine wpAnyH_take (i := 3) (oi := ⟨_, _, _, _, _, _⟩) (v := undef) rfl (by kernel_rfl) (by kernel_rfl) (by kernel_rfl) (fun _ _ _ h => h) (Or.inr ⟨by rfl, rfl⟩) (by assumption) ?_
                try simp only [Act.put, List.setIfInBounds_toArray, List.set_cons_zero, List.set_cons_succ]
                refine wpAnyH_take (i := 4) (oi := ⟨_, _, _, _, _, _⟩) (v := undef) rfl (by kernel_rfl) (by kernel_rfl) (by kernel_rfl) (fun _ _ _ h => h) (Or.inr ⟨by rfl, rfl⟩) (by assumption) ?_
                try simp only [Act.put, List.setIfInBounds_toArray, List.set_cons_zero, List.set_cons_succ]
                refine wpAnyH_take (i := 5) (oi := ⟨_, _, _, _, _, _⟩) (v := undef) rfl (by kernel_rfl) (by kernel_rfl) (by kernel_rfl) (fun _ _ _ h => h) (Or.inr ⟨by rfl, rfl⟩) (by assumption) ?_
                try simp only [Act.put, List.setIfInBounds_toArray, List.set_cons_zero, List.set_cons_succ]
                refine wpAnyH_take (i := 6) (oi := ⟨_, _, _, _, _, _⟩) (v := undef) rfl (by kernel_rfl) (by kernel_rfl) (by kernel_rfl) (fun _ _ _ h => h) (Or.inr ⟨by rfl, rfl⟩) (by assumption) ?_
                try simp only [Act.put, List.setIfInBounds_toArray, List.set_cons_zero, List.set_cons_succ]
                refine wpAnyH_take (i := 7) (oi := ⟨_, _, _, _, _, _⟩) (v := undef) rfl (by kernel_rfl) (by kernel_rfl) (by kernel_rfl) (fun _ _ _ h => h) (Or.inr ⟨by rfl, rfl⟩) (by assumption) ?_
                try simp only [Act.put, List.setIfInBounds_toArray, List.set_cons_zero, List.set_cons_succ]
                refine wpAnyH_take (i := 8) (oi := ⟨_, _, _, _, _, _⟩) (v := undef) rfl (by kernel_rfl) (by kernel_rfl) (by kernel_rfl) (fun _ _ _ h => h) (Or.inr ⟨by rfl, rfl⟩) (by assumption) ?_
                try simp only [Act.put, List.setIfInBounds_toArray, List.set_cons_zero, List.set_cons_succ]
                refine wpAnyH_take (i := 9) (oi := ⟨_, _, _, _, _, _⟩) (v := undef) rfl (by kernel_rfl) (by kernel_rfl) (by kernel_rfl) (fun _ _ _ h => h) (Or.inr ⟨by rfl, rfl⟩) (by assumption) ?_
                try simp only [Act.put, List.setIfInBounds_toArray, List.set_cons_zero, List.set_cons_succ]
                refine wpAnyH_take (i := 10) (oi := ⟨_, _, _, _, _, _⟩) (v := ?_) rfl (by kernel_rfl) (by kernel_rfl) (by kernel_rfl) (fun _ _ _ h => h) (Or.inl ⟨by rfl, ?_⟩) (by assumption) ?_
                rotate_left 1
                · (intro w hSw; go_simp; try with_reducible rfl)
                try simp only [Act.put, List.setIfInBounds_toArray, List.set_cons_zero, List.set_cons_succ]
                refine wpAnyH_done (by kernel_rfl) ?_ _
                go_wp2
                go_roundw
                case rel => exact ⟨5, by omega, by omega, by go_num, HB, HK, HY, HCY, HCC⟩
                case measure => simp [intOf]
              · have hm4b : ((m : Int) != 4) = true := by rw [bne_iff_ne]; omega
                have hm4c : ((m : Int) == 4) = false := by rw [beq_eq_false_iff_ne]; omega
                obtain ⟨dm, hdm⟩ : ∃ dm, holdsB C m = dm := ⟨_, rfl⟩
                have HD2 := Kp.mk hdm
                have HD1 : Kp (holdsB (withCh C (C.chans ++ [x])) m = dm) := ⟨by rw [← hdm, twice_holds C x HXM.out m hm1 hm17 hm4]⟩
                clear hdm
                go_wp2_with fail
                refine held_start_gen (S := (fun w' : World => ButB (wm.heap.size) [] wm w' ∧ ∀ b o, b < wm.heap.size → w'.cell? ⟨b, o, none⟩ = wm.cell? ⟨b, o, none⟩)) (by kernel_rfl) (fun wz : World => Kp (Below w.heap.size w wz) ∧ Kp (wz.heap[w.heap.size]? = some (.cells #[.slice pa C.parts.length pc, .slice (some ⟨g, o, none⟩) C.chans.length cc, .int .i64 C.l0, .slice a0 C.w0.length c0, .int .i64 C.l1, .slice a1 C.w1.length c1] 29 (0, 0))) ∧ Kp (wz.heap[by_]? = some (.cells #[.slice pa C.parts.length pc, .slice (some ⟨ga, 0, none⟩) (C.chans.length + 1) ca2, .int .i64 C.l0, .slice a0 C.w0.length c0, .int .i64 C.l1, .slice a1 C.w1.length c1] 29 (0, 0))) ∧ Kp (CfgAt wz (.agg #[.slice pa C.parts.length pc, .slice (some ⟨ga, 0, none⟩) (C.chans.length + 1) ca2, .int .i64 C.l0, .slice a0 C.w0.length c0, .int .i64 C.l1, .slice a1 C.w1.length c1]) (withCh C (C.chans ++ [x]))) ∧ Kp (CfgAt wz (.agg #[.slice pa C.parts.length pc, .slice (some ⟨g, o, none⟩) C.chans.length cc, .int .i64 C.l0, .slice a0 C.w0.length c0, .int .i64 C.l1, .slice a1 C.w1.length c1]) C) ∧ wm.heap.size ≤ wz.heap.size) ⟨⟨below_dr HB.out⟩, ⟨blk_dr HK.out⟩, ⟨blk_dr HY.out⟩, ⟨HCY.out.below (below_dr (Below.refl _ _))⟩, ⟨HCC.out.below (below_dr (Below.refl _ _))⟩, Nat.le_refl _⟩ (sx_of0 (ButB.dr (ButB.refl _ (by omega)))) (fun wd0 hRn hHeld => ?_)
                clear HB HK HY HCY HCC
                obtain ⟨HB, HK, HY, HCY, HCC, hsz⟩ := hRn
                refine wpAnyH_take (i := 0) (oi := ⟨_, _, _, _, _, _⟩) (v := ?_) rfl (by kernel_rfl) (by kernel_rfl) (by kernel_rfl) (fun _ _ _ h => h) (Or.inl ⟨by rfl, ?_⟩) (by assumption) ?_
                rotate_left 1
                · (intro w hSw; go_simp; try with_reducible rfl)
                try simp only [Act.put, List.setIfInBounds_toArray, List.set_cons_zero, List.set_cons_succ]
                refine wpAnyH_take (i := 1) (oi := ⟨_, _, _, _, _, _⟩) (v := ?_) rfl (by kernel_rfl) (by kernel_rfl) (by kernel_rfl) (fun _ _ _ h => h) (Or.inl ⟨by rfl, ?_⟩) (by assumption) ?_
                rotate_left 1
                · (intro w hSw; go_simp; try with_reducible rfl)
                try simp only [Act.put, List.setIfInBounds_toArray, List.set_cons_zero, List.set_cons_succ]
                refine wpAnyH_take (i := 2) (oi := ⟨_, _, _, _, _, _⟩) (v := ?_) rfl (by kernel_rfl) (by kernel_rfl) (by kernel_rfl) (fun _ _ _ h => h) (Or.inl ⟨by rfl, ?_⟩) (by assumption) ?_
                rotate_left 1
                · (intro w hSw; go_simp; try with_reducible rfl)
                try simp only [Act.put, List.setIfInBounds_toArray, List.set_cons_zero, List.set_cons_succ]
                refine wpAnyH_take (i := 3) (oi := ⟨_, _, _, _, _, _⟩) (v := ?_) rfl (by kernel_rfl) (by kernel_rfl) (by kernel_rfl) (fun _ _ _ h => h) (Or.inl ⟨by rfl, ?_⟩) (by assumption) ?_
                rotate_left 1
                · (intro w hSw; go_simp; try with_reducible rfl)
                try simp only [Act.put, List.setIfInBounds_toArray, List.set_cons_zero, List.set_cons_succ]
                refine wpAnyH_take (i := 4) (oi := ⟨_, _, _, _, _, _⟩) (v := ?_) rfl (by kernel_rfl) (by kernel_rfl) (by kernel_rfl) (fun _ _ _ h => h) (Or.inl ⟨by rfl, ?_⟩) (by assumption) ?_
                rotate_left 1
                · (intro w hSw; go_simp; try with_reducible rfl)
                try simp only [Act.put, List.setIfInBounds_toArray, List.set_cons_zero, List.set_cons_succ]
                refine wpAnyH_take (i := 6) (oi := ⟨_, _, _, _, _, _⟩) (v := ?_) rfl (by kernel_rfl) (by kernel_rfl) (by kernel_rfl) (fun _ _ _ h => h) (Or.inl ⟨by rfl, ?_⟩) (by assumption) ?_
                rotate_left 1
                · (intro w hSw; go_simp; try with_reducible rfl)
                try simp only [Act.put, List.setIfInBounds_toArray, List.set_cons_zero, List.set_cons_succ]
                refine wpAnyH_take (i := 7) (oi := ⟨_, _, _, _, _, _⟩) (v := ?_) rfl (by kernel_rfl) (by kernel_rfl) (by kernel_rfl) (fun _ _ _ h => h) (Or.inl ⟨by rfl, ?_⟩) (by assumption) ?_
                rotate_left 1
                · (intro w hSw; go_simp; try with_reducible rfl)
                try simp only [Act.put, List.setIfInBounds_toArray, List.set_cons_zero, List.set_cons_succ]
                refine wpAnyH_ready (rs := [5]) (by kernel_rfl) (by simp) ?_
                refine (AllReadyH.cons (o := ⟨_, _, _, _, _, _⟩) rfl (fun K hK => ?_) AllReadyH.nil)
                go_simp
                go_at_call 17
                refine (defHolds_any _ (withCh C (C.chans ++ [x])) hsmY m _ HCY.out).mono ?_
                rw [HD1.out]
                rintro e w9 ⟨rfl, hb⟩
                try go_wp2_with fail
                refine out_gen hK _ _ (fun wz : World => Kp (Below w.heap.size w wz) ∧ Kp (wz.heap[w.heap.size]? = some (.cells #[.slice pa C.parts.length pc, .slice (some ⟨g, o, none⟩) C.chans.length cc, .int .i64 C.l0, .slice a0 C.w0.length c0, .int .i64 C.l1, .slice a1 C.w1.length c1] 29 (0, 0))) ∧ Kp (wz.heap[by_]? = some (.cells #[.slice pa C.parts.length pc, .slice (some ⟨ga, 0, none⟩) (C.chans.length + 1) ca2, .int .i64 C.l0, .slice a0 C.w0.length c0, .int .i64 C.l1, .slice a1 C.w1.length c1] 29 (0, 0))) ∧ Kp (CfgAt wz (.agg #[.slice pa C.parts.length pc, .slice (some ⟨ga, 0, none⟩) (C.chans.length + 1) ca2, .int .i64 C.l0, .slice a0 C.w0.length c0, .int .i64 C.l1, .slice a1 C.w1.length c1]) (withCh C (C.chans ++ [x]))) ∧ Kp (CfgAt wz (.agg #[.slice pa C.parts.length pc, .slice (some ⟨g, o, none⟩) C.chans.length cc, .int .i64 C.l0, .slice a0 C.w0.length c0, .int .i64 C.l1, .slice a1 C.w1.length c1]) C) ∧ wd0.heap.size ≤ wz.heap.size) ⟨⟨below_call HB.out hb⟩, ⟨blk_below HK.out hb⟩, ⟨blk_below HY.out hb⟩, ⟨HCY.out.below hb⟩, ⟨HCC.out.below hb⟩, hb.size⟩ (sx_of0 (ButB.call (And.left hHeld) hb)) (fun wd1 hRn hHn => ?_)
                clear hK K hHeld HB HK HY HCY HCC hb
                obtain ⟨HB, HK, HY, HCY, HCC, hsz1⟩ := hRn
                have hHeld := hHn
                clear hHn
                try simp only [Act.put, List.setIfInBounds_toArray, List.set_cons_zero, List.set_cons_succ]
                refine wpAnyH_ready (rs := [8]) (by kernel_rfl) (by simp) ?_
                refine (AllReadyH.cons (o := ⟨_, _, _, _, _, _⟩) rfl (fun K hK => ?_) AllReadyH.nil)
                go_simp
                go_at_call 17
                refine (defHolds_any _ C hsm m _ HCC.out).mono ?_
                rw [HD2.out]
                rintro e w9 ⟨rfl, hb⟩
                try go_wp2_with fail
                refine out_gen hK _ _ (fun wz : World => Kp (Below w.heap.size w wz) ∧ Kp (wz.heap[w.heap.size]? = some (.cells #[.slice pa C.parts.length pc, .slice (some ⟨g, o, none⟩) C.chans.length cc, .int .i64 C.l0, .slice a0 C.w0.length c0, .int .i64 C.l1, .slice a1 C.w1.length c1] 29 (0, 0))) ∧ Kp (wz.heap[by_]? = some (.cells #[.slice pa C.parts.length pc, .slice (some ⟨ga, 0, none⟩) (C.chans.length + 1) ca2, .int .i64 C.l0, .slice a0 C.w0.length c0, .int .i64 C.l1, .slice a1 C.w1.length c1] 29 (0, 0))) ∧ Kp (CfgAt wz (.agg #[.slice pa C.parts.length pc, .slice (some ⟨ga, 0, none⟩) (C.chans.length + 1) ca2, .int .i64 C.l0, .slice a0 C.w0.length c0, .int .i64 C.l1, .slice a1 C.w1.length c1]) (withCh C (C.chans ++ [x]))) ∧ Kp (CfgAt wz (.agg #[.slice pa C.parts.length pc, .slice (some ⟨g, o, none⟩) C.chans.length cc, .int .i64 C.l0, .slice a0 C.w0.length c0, .int .i64 C.l1, .slice a1 C.w1.length c1]) C) ∧ wd1.heap.size ≤ wz.heap.size) ⟨⟨below_call HB.out hb⟩, ⟨blk_below HK.out hb⟩, ⟨blk_below HY.out hb⟩, ⟨HCY.out.below hb⟩, ⟨HCC.out.below hb⟩, hb.size⟩ (sx_of0 (ButB.call (And.left hHeld) hb)) (fun wd2 hRn hHn => ?_)
                clear hK K hHeld HB HK HY HCY HCC hb
                obtain ⟨HB, HK, HY, HCY, HCC, hsz2⟩ := hRn
                have hHeld := hHn
                clear hHn
                try simp only [Act.put, List.setIfInBounds_toArray, List.set_cons_zero, List.set_cons_succ]
                refine wpAnyH_take (i := 9) (oi := ⟨_, _, _, _, _, _⟩) (v := ?_) rfl (by kernel_rfl) (by kernel_rfl) (by kernel_rfl) (fun _ _ _ h => h) (Or.inl ⟨by rfl, ?_⟩) (by assumption) ?_
                rotate_left 1
                · (intro w hSw; go_simp; try with_reducible rfl)
                try simp only [Act.put, List.setIfInBounds_toArray, List.set_cons_zero, List.set_cons_succ]
                refine wpAnyH_take (i := 10) (oi := ⟨_, _, _, _, _, _⟩) (v := ?_) rfl (by kernel_rfl) (by kernel_rfl) (by kernel_rfl) (fun _ _ _ h => h) (Or.inl ⟨by rfl, ?_⟩) (by assumption) ?_
                rotate_left 1
                · (intro w hSw; go_simp; try with_reducible rfl)
                try simp only [Act.put, List.setIfInBounds_toArray, List.set_cons_zero, List.set_cons_succ]
                refine wpAnyH_done (by kernel_rfl) ?_ _
                go_wp2
                go_roundw
                case rel => exact ⟨m + 1, by omega, by omega, by go_num, HB, HK, HY, HCY, HCC⟩
                case measure => simp [intOf]; omega
            · obtain rfl : m = 18 := by omega
              obtain ⟨d4, hd4⟩ : ∃ d4, decide ((8 : Int) ≤ (C.chans.length : Int)) = d4 := ⟨_, rfl⟩
              have HD4 : Kp (holdsB (withCh C (C.chans ++ [x])) 4 = d4) := ⟨by rw [← hd4]; exact (twice_four C x).trans (by rw [decide_eq_decide]; omega)⟩
              go_wp2_with fail
              refine held_start_gen (S := (fun w' : World => ButB (wm.heap.size) [] wm w' ∧ ∀ b o, b < wm.heap.size → w'.cell? ⟨b, o, none⟩ = wm.cell? ⟨b, o, none⟩)) (by kernel_rfl) (fun wz : World => Kp (Below w.heap.size w wz) ∧ Kp (wz.heap[w.heap.size]? = some (.cells #[.slice pa C.parts.length pc, .slice (some ⟨g, o, none⟩) C.chans.length cc, .int .i64 C.l0, .slice a0 C.w0.length c0, .int .i64 C.l1, .slice a1 C.w1.length c1] 29 (0, 0))) ∧ Kp (wz.heap[by_]? = some (.cells #[.slice pa C.parts.length pc, .slice (some ⟨ga, 0, none⟩) (C.chans.length + 1) ca2, .int .i64 C.l0, .slice a0 C.w0.length c0, .int .i64 C.l1, .slice a1 C.w1.length c1] 29 (0, 0))) ∧ Kp (CfgAt wz (.agg #[.slice pa C.parts.length pc, .slice (some ⟨ga, 0, none⟩) (C.chans.length + 1) ca2, .int .i64 C.l0, .slice a0 C.w0.length c0, .int .i64 C.l1, .slice a1 C.w1.length c1]) (withCh C (C.chans ++ [x]))) ∧ Kp (CfgAt wz (.agg #[.slice pa C.parts.length pc, .slice (some ⟨g, o, none⟩) C.chans.length cc, .int .i64 C.l0, .slice a0 C.w0.length c0, .int .i64 C.l1, .slice a1 C.w1.length c1]) C) ∧ wm.heap.size ≤ wz.heap.size) ⟨⟨below_dr HB.out⟩, ⟨blk_dr HK.out⟩, ⟨blk_dr HY.out⟩, ⟨HCY.out.below (below_dr (Below.refl _ _))⟩, ⟨HCC.out.below (below_dr (Below.refl _ _))⟩, Nat.le_refl _⟩ (sx_of0 (ButB.dr (ButB.refl _ (by omega)))) (fun wd0 hRn hHeld => ?_)
              clear HB HK HY HCY HCC
              obtain ⟨HB, HK, HY, HCY, HCC, hsz⟩ := hRn
              refine wpAnyH_take (i := 0) (oi := ⟨_, _, _, _, _, _⟩) (v := ?_) rfl (by kernel_rfl) (by kernel_rfl) (by kernel_rfl) (fun _ _ _ h => h) (Or.inl ⟨by rfl, ?_⟩) (by assumption) ?_
              rotate_left 1
              · (intro w hSw; go_simp; try with_reducible rfl)
              try simp only [Act.put, List.setIfInBounds_toArray, List.set_cons_zero, List.set_cons_succ]
              refine wpAnyH_take (i := 2) (oi := ⟨_, _, _, _, _, _⟩) (v := ?_) rfl (by kernel_rfl) (by kernel_rfl) (by kernel_rfl) (fun _ _ _ h => h) (Or.inl ⟨by rfl, ?_⟩) (by assumption) ?_
              rotate_left 1
              · (intro w hSw; go_simp; try with_reducible rfl)
              try simp only [Act.put, List.setIfInBounds_toArray, List.set_cons_zero, List.set_cons_succ]
              refine wpAnyH_take (i := 3) (oi := ⟨_, _, _, _, _, _⟩) (v := ?_) rfl (by kernel_rfl) (by kernel_rfl) (by kernel_rfl) (fun _ _ _ h => h) (Or.inl ⟨by rfl, ?_⟩) (by assumption) ?_
              rotate_left 1
              · (intro w hSw; go_simp; try with_reducible rfl)
              try simp only [Act.put, List.setIfInBounds_toArray, List.set_cons_zero, List.set_cons_succ]
              refine wpAnyH_take (i := 4) (oi := ⟨_, _, _, _, _, _⟩) (v := ?_) rfl (by kernel_rfl) (by kernel_rfl) (by kernel_rfl) (fun _ _ _ h => h) (Or.inl ⟨by rfl, ?_⟩) (by assumption) ?_
              rotate_left 1
              · (intro w hSw; go_simp; try with_reducible rfl)
              try simp only [Act.put, List.setIfInBounds_toArray, List.set_cons_zero, List.set_cons_succ]
              refine wpAnyH_take (i := 5) (oi := ⟨_, _, _, _, _, _⟩) (v := ?_) rfl (by kernel_rfl) (by kernel_rfl) (by kernel_rfl) (fun _ _ _ h => h) (Or.inl ⟨by rfl, ?_⟩) (by assumption) ?_
              rotate_left 1
              · (intro w hSw; go_simp; try with_reducible rfl)
              try simp only [Act.put, List.setIfInBounds_toArray, List.set_cons_zero, List.set_cons_succ]
              refine wpAnyH_ready (rs := [1]) (by kernel_rfl) (by simp) ?_
              refine (AllReadyH.cons (o := ⟨_, _, _, _, _, _⟩) rfl (fun K hK => ?_) AllReadyH.nil)
              go_simp
              go_at_call 17
              refine (defHolds_any _ (withCh C (C.chans ++ [x])) hsmY 4 _ HCY.out).mono ?_
              rw [HD4.out]
              rintro e w9 ⟨rfl, hb⟩
              try go_wp2_with fail
              refine out_gen hK _ _ (fun wz : World => Kp (Below w.heap.size w wz) ∧ Kp (wz.heap[w.heap.size]? = some (.cells #[.slice pa C.parts.length pc, .slice (some ⟨g, o, none⟩) C.chans.length cc, .int .i64 C.l0, .slice a0 C.w0.length c0, .int .i64 C.l1, .slice a1 C.w1.length c1] 29 (0, 0))) ∧ Kp (wz.heap[by_]? = some (.cells #[.slice pa C.parts.length pc, .slice (some ⟨ga, 0, none⟩) (C.chans.length + 1) ca2, .int .i64 C.l0, .slice a0 C.w0.length c0, .int .i64 C.l1, .slice a1 C.w1.length c1] 29 (0, 0))) ∧ Kp (CfgAt wz (.agg #[.slice pa C.parts.length pc, .slice (some ⟨ga, 0, none⟩) (C.chans.length + 1) ca2, .int .i64 C.l0, .slice a0 C.w0.length c0, .int .i64 C.l1, .slice a1 C.w1.length c1]) (withCh C (C.chans ++ [x]))) ∧ Kp (CfgAt wz (.agg #[.slice pa C.parts.length pc, .slice (some ⟨g, o, none⟩) C.chans.length cc, .int .i64 C.l0, .slice a0 C.w0.length c0, .int .i64 C.l1, .slice a1 C.w1.length c1]) C) ∧ wd0.heap.size ≤ wz.heap.size) ⟨⟨below_call HB.out hb⟩, ⟨blk_below HK.out hb⟩, ⟨blk_below HY.out hb⟩, ⟨HCY.out.below hb⟩, ⟨HCC.out.below hb⟩, hb.size⟩ (sx_of0 (ButB.call (And.left hHeld) hb)) (fun wd1 hRn hHn => ?_)
              clear hK K hHeld HB HK HY HCY HCC hb
              obtain ⟨HB, HK, HY, HCY, HCC, hsz1⟩ := hRn
              have hHeld := hHn
              clear hHn
              try simp only [Act.put, List.setIfInBounds_toArray, List.set_cons_zero, List.set_cons_succ]
              refine wpAnyH_take (i := 6) (oi := ⟨_, _, _, _, _, _⟩) (v := ?_) rfl (by kernel_rfl) (by kernel_rfl) (by kernel_rfl) (fun _ _ _ h => h) (Or.inl ⟨by rfl, ?_⟩) (by assumption) ?_
              rotate_left 1
              · (intro w hSw; go_simp; try with_reducible rfl)
              try simp only [Act.put, List.setIfInBounds_toArray, List.set_cons_zero, List.set_cons_succ]
              refine wpAnyH_take (i := 7) (oi := ⟨_, _, _, _, _, _⟩) (v := ?_) rfl (by kernel_rfl) (by kernel_rfl) (by kernel_rfl) (fun _ _ _ h => h) (Or.inl ⟨by rfl, ?_⟩) (by assumption) ?_
              rotate_left 1
              · (intro w hSw; go_simp; try with_reducible rfl)
              try simp only [Act.put, List.setIfInBounds_toArray, List.set_cons_zero, List.set_cons_succ]
              refine wpAnyH_done (by kernel_rfl) ?_ _
              go_wp2
              go_ret
              exact ⟨ret_bool (by simp), HB.out⟩
end Go.Proofs.Ytpeajlponlmceaa

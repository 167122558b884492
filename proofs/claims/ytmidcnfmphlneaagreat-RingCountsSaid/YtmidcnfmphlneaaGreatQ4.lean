/- Contracts of the reference of defects: channels. -/
import Derived.Test.YtmidcnfmphlneaaGreatQ3
namespace Go.Proofs.YtmidcnfmphlneaaGreat
open Go.RowKit
set_option linter.unusedSimpArgs false
set_option linter.unusedVariables false

set_option maxHeartbeats 1000000 in
theorem part07_any (cv : Value) (C : Cfg) (p : Int) (b : Bool) (hb : strangeB C p = b) (w : World) (h : CfgAt w cv C) : Calls Tryz.prog 103 #[cv, .int .i64 p] w fun e w' => e = .returned (.bool (!b)) ∧ Below w.heap.size w w' := by
  subst hb
  obtain ⟨ho, pa, pc, ca, cc, a0, c0, a1, c1, rfl, bp, bc, b0, b1, hp, hc, hw0, hw1⟩ := h
  clear hp hc hw0 hw1
  by_cases h1 : 0 ≤ p
  · by_cases h2 : p < (C.parts.length : Int)
    · have HV : Kp (strangeB C p = false) := ⟨by rw [strangeB, inB_true (by omega)]; rfl⟩
      go_enter Tryz.func103, Tryz.ntmps103
      go_wp2
      go_ret
      exact ⟨ret_bool (by rw [HV.out]; rfl), (by repeat (first | exact Below.refl _ _ | apply below_al))⟩
    · have HV : Kp (strangeB C p = true) := ⟨by rw [strangeB, inB_false (by omega)]; rfl⟩
      go_enter Tryz.func103, Tryz.ntmps103
      go_wp2
      go_ret
      exact ⟨ret_bool (by rw [HV.out]; first | rfl | (simp; omega)), (by repeat (first | exact Below.refl _ _ | apply below_al))⟩
  · have HV : Kp (strangeB C p = true) := ⟨by rw [strangeB, inB_false (by omega)]; rfl⟩
    go_enter Tryz.func103, Tryz.ntmps103
    go_wp2
    go_ret
    exact ⟨ret_bool (by rw [HV.out]; first | rfl | (simp; omega)), (by repeat (first | exact Below.refl _ _ | apply below_al))⟩

set_option maxRecDepth 100000 in
set_option maxHeartbeats 4000000 in
theorem chans5_any (cv : Value) (C : Cfg) (hsm : C.small) (w : World) (h : CfgAt w cv C) : Calls Tryz.prog 93 #[cv, .int .i64 5] w fun e w' => e = .returned (.bool (C.chans.any fun x => x.kind != 1 && x.kind != 2)) ∧ Below w.heap.size w w' := by
  have HC := Kp.mk h
  obtain ⟨ho, pa, pc, ca, cc, a0, c0, a1, c1, rfl, bp, bc, b0, b1, hp, hc, hw0, hw1⟩ := h
  have HP := Kp.mk hc
  have hs2 := hsm.2.1
  clear hp hc hw0 hw1
  obtain ⟨p, hp⟩ : ∃ p : Chn → Bool, p = fun x => x.kind != 1 && x.kind != 2 := ⟨_, rfl⟩
  have HPP := Kp.mk hp
  rw [← hp]
  clear hp
  go_enter Tryz.func93, Tryz.ntmps93
  go_wp2_with fail
  go_loopw [5] (fun i wr => ∃ k : Nat, k ≤ C.chans.length ∧ i = .int .i64 k ∧ Kp (Below w.heap.size w wr) ∧ Kp (wr.heap[w.heap.size]? = some (.cells #[.slice pa C.parts.length pc, .slice ca C.chans.length cc, .int .i64 C.l0, .slice a0 C.w0.length c0, .int .i64 C.l1, .slice a1 C.w1.length c1] 31 (0, 0))) ∧ Kp ((C.chans.take k).any p = false)) (fun i wr => C.chans.length - (intOf i).toNat)
  case atStart => exact ⟨0, Nat.zero_le _, rfl, ⟨below_al (Below.refl _ _) _⟩, ⟨blk_new w _⟩, ⟨rfl⟩⟩
  case round =>
    obtain ⟨k, hk, rfl, HB, HK, HN⟩ := hrel
    have q0 : wr.cell? ⟨w.heap.size, 0, none⟩ = some (.slice pa C.parts.length pc) := (cell_blk HK.out 0).trans rfl
    have q1 : wr.cell? ⟨w.heap.size, 1, none⟩ = some (.slice ca C.chans.length cc) := (cell_blk HK.out 1).trans rfl
    have q2 : wr.cell? ⟨w.heap.size, 2, none⟩ = some (.int .i64 C.l0) := (cell_blk HK.out 2).trans rfl
    have q3 : wr.cell? ⟨w.heap.size, 3, none⟩ = some (.slice a0 C.w0.length c0) := (cell_blk HK.out 3).trans rfl
    have q4 : wr.cell? ⟨w.heap.size, 4, none⟩ = some (.int .i64 C.l1) := (cell_blk HK.out 4).trans rfl
    have q5 : wr.cell? ⟨w.heap.size, 5, none⟩ = some (.slice a1 C.w1.length c1) := (cell_blk HK.out 5).trans rfl
    have l0 := blk_lt HK.out
    by_cases hlt : k < C.chans.length
    · obtain ⟨g, o, hca, hg, hcc⟩ := HP.out.at (by omega)
      obtain ⟨x, hx⟩ : ∃ x, C.chans[k] = x := ⟨_, rfl⟩
      have hcu : ∀ j, j < 7 → wr.cell? ⟨g, o + k * 7 + j, none⟩ = (chanC x)[j]? := fun j hj => by
        have h1 := hcc (k * 7 + j) (by omega)
        rw [flat_at chanC 7 chanC_len C.chans k j hlt hj, hx] at h1
        rw [Nat.add_assoc]
        exact (HB.out.cell (p := ⟨g, o + (k * 7 + j), none⟩) hg).trans h1
      have e0 : wr.cell? ⟨g, o + k * 7, none⟩ = some (.int .i64 x.kind) := hcu 0 (by omega)
      have e1 : wr.cell? ⟨g, o + k * 7 + 1, none⟩ = some (.int .i64 x.frm) := hcu 1 (by omega)
      have e2 : wr.cell? ⟨g, o + k * 7 + 2, none⟩ = some (.int .i64 x.to) := hcu 2 (by omega)
      have e3 : wr.cell? ⟨g, o + k * 7 + 3, none⟩ = some (.int .i64 x.words) := hcu 3 (by omega)
      have e4 : wr.cell? ⟨g, o + k * 7 + 4, none⟩ = some (.int .i64 x.depth) := hcu 4 (by omega)
      have e5 : wr.cell? ⟨g, o + k * 7 + 5, none⟩ = some (.int .i64 x.period) := hcu 5 (by omega)
      have e6 : wr.cell? ⟨g, o + k * 7 + 6, none⟩ = some (.int .u32 x.boot) := hcu 6 (by omega)
      have HA : Kp ((C.chans.take (k + 1)).any p = ((C.chans.take k).any p || p x)) := ⟨by rw [List.take_succ_eq_append_getElem hlt, List.any_append, hx]; simp⟩
      have HX : Kp (x ∈ C.chans) := ⟨hx ▸ List.getElem_mem hlt⟩
      have HY : Kp (p x = true → C.chans.any p = true) := ⟨fun h => List.any_eq_true.2 ⟨x, HX.out, h⟩⟩
      have HN1 : Kp (p x = false → (C.chans.take (k + 1)).any p = false) := ⟨fun h => by rw [HA.out, HN.out, h]; rfl⟩
      have HPX : Kp (p x = (x.kind != 1 && x.kind != 2)) := ⟨by rw [HPP.out]⟩
      subst hca
      clear hcu hcc hx HA HN HX
      obtain ⟨x0, x1, x2, x3, x4, x5, x6⟩ := x
      dsimp only at HPX e0 e1 e2 e3 e4 e5 e6
      go_wp2
      all_goals
        first
          | (go_roundw
             case rel => exact ⟨k + 1, by omega, by go_num, ⟨below_al HB.out _⟩, ⟨blk_al HK.out _⟩, ⟨HN1.out (by rw [HPX.out]; first | rfl | (simp [*]; done) | (simp_all; done))⟩⟩
             case measure => simp [intOf]; omega)
          | (go_ret
             exact ⟨ret_bool (HY.out (by rw [HPX.out]; first | rfl | (simp [*]; done) | (simp_all; done))).symm, below_al HB.out _⟩)
    · obtain rfl : k = C.chans.length := by omega
      have h1 := HN.out
      rw [List.take_length] at h1
      have HF := Kp.mk h1
      clear h1
      go_wp2
      go_ret
      exact ⟨ret_bool HF.out.symm, HB.out⟩

set_option maxRecDepth 100000 in
set_option maxHeartbeats 4000000 in
theorem chans6_any (cv : Value) (C : Cfg) (hsm : C.small) (w : World) (h : CfgAt w cv C) : Calls Tryz.prog 93 #[cv, .int .i64 6] w fun e w' => e = .returned (.bool (C.chans.any fun x => strangeB C x.frm || strangeB C x.to)) ∧ Below w.heap.size w w' := by
  have HC := Kp.mk h
  obtain ⟨ho, pa, pc, ca, cc, a0, c0, a1, c1, rfl, bp, bc, b0, b1, hp, hc, hw0, hw1⟩ := h
  have HP := Kp.mk hc
  have hs2 := hsm.2.1
  clear hp hc hw0 hw1
  obtain ⟨p, hp⟩ : ∃ p : Chn → Bool, p = fun x => strangeB C x.frm || strangeB C x.to := ⟨_, rfl⟩
  have HPP := Kp.mk hp
  rw [← hp]
  clear hp
  go_enter Tryz.func93, Tryz.ntmps93
  go_wp2_with fail
  go_loopw [5] (fun i wr => ∃ k : Nat, k ≤ C.chans.length ∧ i = .int .i64 k ∧ Kp (Below w.heap.size w wr) ∧ Kp (wr.heap[w.heap.size]? = some (.cells #[.slice pa C.parts.length pc, .slice ca C.chans.length cc, .int .i64 C.l0, .slice a0 C.w0.length c0, .int .i64 C.l1, .slice a1 C.w1.length c1] 31 (0, 0))) ∧ Kp ((C.chans.take k).any p = false)) (fun i wr => C.chans.length - (intOf i).toNat)
  case atStart => exact ⟨0, Nat.zero_le _, rfl, ⟨below_al (Below.refl _ _) _⟩, ⟨blk_new w _⟩, ⟨rfl⟩⟩
  case round =>
    obtain ⟨k, hk, rfl, HB, HK, HN⟩ := hrel
    have q0 : wr.cell? ⟨w.heap.size, 0, none⟩ = some (.slice pa C.parts.length pc) := (cell_blk HK.out 0).trans rfl
    have q1 : wr.cell? ⟨w.heap.size, 1, none⟩ = some (.slice ca C.chans.length cc) := (cell_blk HK.out 1).trans rfl
    have q2 : wr.cell? ⟨w.heap.size, 2, none⟩ = some (.int .i64 C.l0) := (cell_blk HK.out 2).trans rfl
    have q3 : wr.cell? ⟨w.heap.size, 3, none⟩ = some (.slice a0 C.w0.length c0) := (cell_blk HK.out 3).trans rfl
    have q4 : wr.cell? ⟨w.heap.size, 4, none⟩ = some (.int .i64 C.l1) := (cell_blk HK.out 4).trans rfl
    have q5 : wr.cell? ⟨w.heap.size, 5, none⟩ = some (.slice a1 C.w1.length c1) := (cell_blk HK.out 5).trans rfl
    have l0 := blk_lt HK.out
    by_cases hlt : k < C.chans.length
    · obtain ⟨g, o, hca, hg, hcc⟩ := HP.out.at (by omega)
      obtain ⟨x, hx⟩ : ∃ x, C.chans[k] = x := ⟨_, rfl⟩
      have hcu : ∀ j, j < 7 → wr.cell? ⟨g, o + k * 7 + j, none⟩ = (chanC x)[j]? := fun j hj => by
        have h1 := hcc (k * 7 + j) (by omega)
        rw [flat_at chanC 7 chanC_len C.chans k j hlt hj, hx] at h1
        rw [Nat.add_assoc]
        exact (HB.out.cell (p := ⟨g, o + (k * 7 + j), none⟩) hg).trans h1
      have e0 : wr.cell? ⟨g, o + k * 7, none⟩ = some (.int .i64 x.kind) := hcu 0 (by omega)
      have e1 : wr.cell? ⟨g, o + k * 7 + 1, none⟩ = some (.int .i64 x.frm) := hcu 1 (by omega)
      have e2 : wr.cell? ⟨g, o + k * 7 + 2, none⟩ = some (.int .i64 x.to) := hcu 2 (by omega)
      have e3 : wr.cell? ⟨g, o + k * 7 + 3, none⟩ = some (.int .i64 x.words) := hcu 3 (by omega)
      have e4 : wr.cell? ⟨g, o + k * 7 + 4, none⟩ = some (.int .i64 x.depth) := hcu 4 (by omega)
      have e5 : wr.cell? ⟨g, o + k * 7 + 5, none⟩ = some (.int .i64 x.period) := hcu 5 (by omega)
      have e6 : wr.cell? ⟨g, o + k * 7 + 6, none⟩ = some (.int .u32 x.boot) := hcu 6 (by omega)
      have HA : Kp ((C.chans.take (k + 1)).any p = ((C.chans.take k).any p || p x)) := ⟨by rw [List.take_succ_eq_append_getElem hlt, List.any_append, hx]; simp⟩
      have HX : Kp (x ∈ C.chans) := ⟨hx ▸ List.getElem_mem hlt⟩
      have HY : Kp (p x = true → C.chans.any p = true) := ⟨fun h => List.any_eq_true.2 ⟨x, HX.out, h⟩⟩
      have HN1 : Kp (p x = false → (C.chans.take (k + 1)).any p = false) := ⟨fun h => by rw [HA.out, HN.out, h]; rfl⟩
      have HPX : Kp (p x = (strangeB C x.frm || strangeB C x.to)) := ⟨by rw [HPP.out]⟩
      subst hca
      clear hcu hcc hx HA HN HX
      obtain ⟨d1, hd1⟩ : ∃ d1, strangeB C x.frm = d1 := ⟨_, rfl⟩
      obtain ⟨d2, hd2⟩ : ∃ d2, strangeB C x.to = d2 := ⟨_, rfl⟩
      rw [hd1, hd2] at HPX
      have HD1 := Kp.mk hd1
      have HD2 := Kp.mk hd2
      clear hd1 hd2
      go_wp2_with fail
      refine (part07_any _ C x.frm d1 HD1.out _ (HC.out.below (below_al HB.out _))).mono ?_
      rintro e w1 ⟨rfl, hb1⟩
      have K0 : w1.heap[w.heap.size]? = some (.cells #[.slice pa C.parts.length pc, .slice (some ⟨g, o, none⟩) C.chans.length cc, .int .i64 C.l0, .slice a0 C.w0.length c0, .int .i64 C.l1, .slice a1 C.w1.length c1] 31 (0, 0)) := blk_below (blk_al HK.out _) hb1
      have K1 : w1.heap[wr.heap.size]? = some (.cells #[.int .i64 x.kind, .int .i64 x.frm, .int .i64 x.to, .int .i64 x.words, .int .i64 x.depth, .int .i64 x.period, .int .u32 x.boot] 52 (0, 0)) := blk_below (blk_new wr _) hb1
      have HB1 : Kp (Below w.heap.size w w1) := ⟨below_call (below_al HB.out _) hb1⟩
      have HK1 := Kp.mk K0
      have r0 : w1.cell? ⟨w.heap.size, 0, none⟩ = some (.slice pa C.parts.length pc) := (cell_blk K0 0).trans rfl
      have r1 : w1.cell? ⟨w.heap.size, 1, none⟩ = some (.slice (some ⟨g, o, none⟩) C.chans.length cc) := (cell_blk K0 1).trans rfl
      have r2 : w1.cell? ⟨w.heap.size, 2, none⟩ = some (.int .i64 C.l0) := (cell_blk K0 2).trans rfl
      have r3 : w1.cell? ⟨w.heap.size, 3, none⟩ = some (.slice a0 C.w0.length c0) := (cell_blk K0 3).trans rfl
      have r4 : w1.cell? ⟨w.heap.size, 4, none⟩ = some (.int .i64 C.l1) := (cell_blk K0 4).trans rfl
      have r5 : w1.cell? ⟨w.heap.size, 5, none⟩ = some (.slice a1 C.w1.length c1) := (cell_blk K0 5).trans rfl
      have s2 : w1.cell? ⟨wr.heap.size, 2, none⟩ = some (.int .i64 x.to) := (cell_blk K1 2).trans rfl
      have l1 := blk_lt K0
      have l2 := blk_lt K1
      clear hb1 K0 K1
      cases d1 with
      | true =>
        go_wp2
        go_ret
        exact ⟨ret_bool (HY.out (by rw [HPX.out]; rfl)).symm, HB1.out⟩
      | false =>
        go_wp2_with fail
        refine (part07_any _ C x.to d2 HD2.out _ (HC.out.below HB1.out)).mono ?_
        rintro e w2 ⟨rfl, hb2⟩
        have HB2 := Kp.mk (below_call HB1.out hb2)
        have HK2 := Kp.mk (blk_below HK1.out hb2)
        clear hb2
        cases d2 with
        | true =>
          go_wp2
          go_ret
          exact ⟨ret_bool (HY.out (by rw [HPX.out]; rfl)).symm, HB2.out⟩
        | false =>
          go_wp2
          go_roundw
          case rel => exact ⟨k + 1, by omega, by go_num, HB2, HK2, ⟨HN1.out (by rw [HPX.out]; rfl)⟩⟩
          case measure => simp [intOf]; omega
    · obtain rfl : k = C.chans.length := by omega
      have h1 := HN.out
      rw [List.take_length] at h1
      have HF := Kp.mk h1
      clear h1
      go_wp2
      go_ret
      exact ⟨ret_bool HF.out.symm, HB.out⟩

set_option maxRecDepth 100000 in
set_option maxHeartbeats 4000000 in
theorem chans7_any (cv : Value) (C : Cfg) (hsm : C.small) (w : World) (h : CfgAt w cv C) : Calls Tryz.prog 93 #[cv, .int .i64 7] w fun e w' => e = .returned (.bool (C.chans.any fun x => x.frm == x.to)) ∧ Below w.heap.size w w' := by
  have HC := Kp.mk h
  obtain ⟨ho, pa, pc, ca, cc, a0, c0, a1, c1, rfl, bp, bc, b0, b1, hp, hc, hw0, hw1⟩ := h
  have HP := Kp.mk hc
  have hs2 := hsm.2.1
  clear hp hc hw0 hw1
  obtain ⟨p, hp⟩ : ∃ p : Chn → Bool, p = fun x => x.frm == x.to := ⟨_, rfl⟩
  have HPP := Kp.mk hp
  rw [← hp]
  clear hp
  go_enter Tryz.func93, Tryz.ntmps93
  go_wp2_with fail
  go_loopw [5] (fun i wr => ∃ k : Nat, k ≤ C.chans.length ∧ i = .int .i64 k ∧ Kp (Below w.heap.size w wr) ∧ Kp (wr.heap[w.heap.size]? = some (.cells #[.slice pa C.parts.length pc, .slice ca C.chans.length cc, .int .i64 C.l0, .slice a0 C.w0.length c0, .int .i64 C.l1, .slice a1 C.w1.length c1] 31 (0, 0))) ∧ Kp ((C.chans.take k).any p = false)) (fun i wr => C.chans.length - (intOf i).toNat)
  case atStart => exact ⟨0, Nat.zero_le _, rfl, ⟨below_al (Below.refl _ _) _⟩, ⟨blk_new w _⟩, ⟨rfl⟩⟩
  case round =>
    obtain ⟨k, hk, rfl, HB, HK, HN⟩ := hrel
    have q0 : wr.cell? ⟨w.heap.size, 0, none⟩ = some (.slice pa C.parts.length pc) := (cell_blk HK.out 0).trans rfl
    have q1 : wr.cell? ⟨w.heap.size, 1, none⟩ = some (.slice ca C.chans.length cc) := (cell_blk HK.out 1).trans rfl
    have q2 : wr.cell? ⟨w.heap.size, 2, none⟩ = some (.int .i64 C.l0) := (cell_blk HK.out 2).trans rfl
    have q3 : wr.cell? ⟨w.heap.size, 3, none⟩ = some (.slice a0 C.w0.length c0) := (cell_blk HK.out 3).trans rfl
    have q4 : wr.cell? ⟨w.heap.size, 4, none⟩ = some (.int .i64 C.l1) := (cell_blk HK.out 4).trans rfl
    have q5 : wr.cell? ⟨w.heap.size, 5, none⟩ = some (.slice a1 C.w1.length c1) := (cell_blk HK.out 5).trans rfl
    have l0 := blk_lt HK.out
    by_cases hlt : k < C.chans.length
    · obtain ⟨g, o, hca, hg, hcc⟩ := HP.out.at (by omega)
      obtain ⟨x, hx⟩ : ∃ x, C.chans[k] = x := ⟨_, rfl⟩
      have hcu : ∀ j, j < 7 → wr.cell? ⟨g, o + k * 7 + j, none⟩ = (chanC x)[j]? := fun j hj => by
        have h1 := hcc (k * 7 + j) (by omega)
        rw [flat_at chanC 7 chanC_len C.chans k j hlt hj, hx] at h1
        rw [Nat.add_assoc]
        exact (HB.out.cell (p := ⟨g, o + (k * 7 + j), none⟩) hg).trans h1
      have e0 : wr.cell? ⟨g, o + k * 7, none⟩ = some (.int .i64 x.kind) := hcu 0 (by omega)
      have e1 : wr.cell? ⟨g, o + k * 7 + 1, none⟩ = some (.int .i64 x.frm) := hcu 1 (by omega)
      have e2 : wr.cell? ⟨g, o + k * 7 + 2, none⟩ = some (.int .i64 x.to) := hcu 2 (by omega)
      have e3 : wr.cell? ⟨g, o + k * 7 + 3, none⟩ = some (.int .i64 x.words) := hcu 3 (by omega)
      have e4 : wr.cell? ⟨g, o + k * 7 + 4, none⟩ = some (.int .i64 x.depth) := hcu 4 (by omega)
      have e5 : wr.cell? ⟨g, o + k * 7 + 5, none⟩ = some (.int .i64 x.period) := hcu 5 (by omega)
      have e6 : wr.cell? ⟨g, o + k * 7 + 6, none⟩ = some (.int .u32 x.boot) := hcu 6 (by omega)
      have HA : Kp ((C.chans.take (k + 1)).any p = ((C.chans.take k).any p || p x)) := ⟨by rw [List.take_succ_eq_append_getElem hlt, List.any_append, hx]; simp⟩
      have HX : Kp (x ∈ C.chans) := ⟨hx ▸ List.getElem_mem hlt⟩
      have HY : Kp (p x = true → C.chans.any p = true) := ⟨fun h => List.any_eq_true.2 ⟨x, HX.out, h⟩⟩
      have HN1 : Kp (p x = false → (C.chans.take (k + 1)).any p = false) := ⟨fun h => by rw [HA.out, HN.out, h]; rfl⟩
      have HPX : Kp (p x = (x.frm == x.to)) := ⟨by rw [HPP.out]⟩
      subst hca
      clear hcu hcc hx HA HN HX
      obtain ⟨x0, x1, x2, x3, x4, x5, x6⟩ := x
      dsimp only at HPX e0 e1 e2 e3 e4 e5 e6
      go_wp2
      all_goals
        first
          | (go_roundw
             case rel => exact ⟨k + 1, by omega, by go_num, ⟨below_al HB.out _⟩, ⟨blk_al HK.out _⟩, ⟨HN1.out (by rw [HPX.out]; first | rfl | (simp [*]; done) | (simp_all; done))⟩⟩
             case measure => simp [intOf]; omega)
          | (go_ret
             exact ⟨ret_bool (HY.out (by rw [HPX.out]; first | rfl | (simp [*]; done) | (simp_all; done))).symm, below_al HB.out _⟩)
    · obtain rfl : k = C.chans.length := by omega
      have h1 := HN.out
      rw [List.take_length] at h1
      have HF := Kp.mk h1
      clear h1
      go_wp2
      go_ret
      exact ⟨ret_bool HF.out.symm, HB.out⟩

set_option maxRecDepth 100000 in
set_option maxHeartbeats 4000000 in
theorem chans8_any (cv : Value) (C : Cfg) (hsm : C.small) (w : World) (h : CfgAt w cv C) : Calls Tryz.prog 93 #[cv, .int .i64 8] w fun e w' => e = .returned (.bool (C.chans.any fun x => !inB x.words 1 16)) ∧ Below w.heap.size w w' := by
  have HC := Kp.mk h
  obtain ⟨ho, pa, pc, ca, cc, a0, c0, a1, c1, rfl, bp, bc, b0, b1, hp, hc, hw0, hw1⟩ := h
  have HP := Kp.mk hc
  have hs2 := hsm.2.1
  clear hp hc hw0 hw1
  obtain ⟨p, hp⟩ : ∃ p : Chn → Bool, p = fun x => !inB x.words 1 16 := ⟨_, rfl⟩
  have HPP := Kp.mk hp
  rw [← hp]
  clear hp
  go_enter Tryz.func93, Tryz.ntmps93
  go_wp2_with fail
  go_loopw [5] (fun i wr => ∃ k : Nat, k ≤ C.chans.length ∧ i = .int .i64 k ∧ Kp (Below w.heap.size w wr) ∧ Kp (wr.heap[w.heap.size]? = some (.cells #[.slice pa C.parts.length pc, .slice ca C.chans.length cc, .int .i64 C.l0, .slice a0 C.w0.length c0, .int .i64 C.l1, .slice a1 C.w1.length c1] 31 (0, 0))) ∧ Kp ((C.chans.take k).any p = false)) (fun i wr => C.chans.length - (intOf i).toNat)
  case atStart => exact ⟨0, Nat.zero_le _, rfl, ⟨below_al (Below.refl _ _) _⟩, ⟨blk_new w _⟩, ⟨rfl⟩⟩
  case round =>
    obtain ⟨k, hk, rfl, HB, HK, HN⟩ := hrel
    have q0 : wr.cell? ⟨w.heap.size, 0, none⟩ = some (.slice pa C.parts.length pc) := (cell_blk HK.out 0).trans rfl
    have q1 : wr.cell? ⟨w.heap.size, 1, none⟩ = some (.slice ca C.chans.length cc) := (cell_blk HK.out 1).trans rfl
    have q2 : wr.cell? ⟨w.heap.size, 2, none⟩ = some (.int .i64 C.l0) := (cell_blk HK.out 2).trans rfl
    have q3 : wr.cell? ⟨w.heap.size, 3, none⟩ = some (.slice a0 C.w0.length c0) := (cell_blk HK.out 3).trans rfl
    have q4 : wr.cell? ⟨w.heap.size, 4, none⟩ = some (.int .i64 C.l1) := (cell_blk HK.out 4).trans rfl
    have q5 : wr.cell? ⟨w.heap.size, 5, none⟩ = some (.slice a1 C.w1.length c1) := (cell_blk HK.out 5).trans rfl
    have l0 := blk_lt HK.out
    by_cases hlt : k < C.chans.length
    · obtain ⟨g, o, hca, hg, hcc⟩ := HP.out.at (by omega)
      obtain ⟨x, hx⟩ : ∃ x, C.chans[k] = x := ⟨_, rfl⟩
      have hcu : ∀ j, j < 7 → wr.cell? ⟨g, o + k * 7 + j, none⟩ = (chanC x)[j]? := fun j hj => by
        have h1 := hcc (k * 7 + j) (by omega)
        rw [flat_at chanC 7 chanC_len C.chans k j hlt hj, hx] at h1
        rw [Nat.add_assoc]
        exact (HB.out.cell (p := ⟨g, o + (k * 7 + j), none⟩) hg).trans h1
      have e0 : wr.cell? ⟨g, o + k * 7, none⟩ = some (.int .i64 x.kind) := hcu 0 (by omega)
      have e1 : wr.cell? ⟨g, o + k * 7 + 1, none⟩ = some (.int .i64 x.frm) := hcu 1 (by omega)
      have e2 : wr.cell? ⟨g, o + k * 7 + 2, none⟩ = some (.int .i64 x.to) := hcu 2 (by omega)
      have e3 : wr.cell? ⟨g, o + k * 7 + 3, none⟩ = some (.int .i64 x.words) := hcu 3 (by omega)
      have e4 : wr.cell? ⟨g, o + k * 7 + 4, none⟩ = some (.int .i64 x.depth) := hcu 4 (by omega)
      have e5 : wr.cell? ⟨g, o + k * 7 + 5, none⟩ = some (.int .i64 x.period) := hcu 5 (by omega)
      have e6 : wr.cell? ⟨g, o + k * 7 + 6, none⟩ = some (.int .u32 x.boot) := hcu 6 (by omega)
      have HA : Kp ((C.chans.take (k + 1)).any p = ((C.chans.take k).any p || p x)) := ⟨by rw [List.take_succ_eq_append_getElem hlt, List.any_append, hx]; simp⟩
      have HX : Kp (x ∈ C.chans) := ⟨hx ▸ List.getElem_mem hlt⟩
      have HY : Kp (p x = true → C.chans.any p = true) := ⟨fun h => List.any_eq_true.2 ⟨x, HX.out, h⟩⟩
      have HN1 : Kp (p x = false → (C.chans.take (k + 1)).any p = false) := ⟨fun h => by rw [HA.out, HN.out, h]; rfl⟩
      have HPX : Kp (p x = (!inB x.words 1 16)) := ⟨by rw [HPP.out]⟩
      subst hca
      clear hcu hcc hx HA HN HX
      simp only [inB] at HPX
      obtain ⟨x0, x1, x2, x3, x4, x5, x6⟩ := x
      dsimp only at HPX e0 e1 e2 e3 e4 e5 e6
      by_cases h1 : x3 < 1
      · have HT := Kp.mk (HY.out (by rw [HPX.out, decide_eq_false (by omega)]; rfl))
        go_wp2
        go_ret
        exact ⟨ret_bool HT.out.symm, below_al HB.out _⟩
      · have h1' : decide (x3 < 1) = false := decide_eq_false h1
        by_cases h2 : 16 < x3
        · have HT := Kp.mk (HY.out (by rw [HPX.out, decide_eq_false (by omega)]; rfl))
          go_wp2
          go_ret
          exact ⟨ret_bool HT.out.symm, below_al HB.out _⟩
        · have h2' : decide (16 < x3) = false := decide_eq_false h2
          have HF := Kp.mk (HN1.out (by rw [HPX.out, decide_eq_true (by omega)]; rfl))
          go_wp2
          go_roundw
          case rel => exact ⟨k + 1, by omega, by go_num, ⟨below_al HB.out _⟩, ⟨blk_al HK.out _⟩, HF⟩
          case measure => simp [intOf]; omega
    · obtain rfl : k = C.chans.length := by omega
      have h1 := HN.out
      rw [List.take_length] at h1
      have HF := Kp.mk h1
      clear h1
      go_wp2
      go_ret
      exact ⟨ret_bool HF.out.symm, HB.out⟩

set_option maxRecDepth 100000 in
set_option maxHeartbeats 4000000 in
theorem chans11_any (cv : Value) (C : Cfg) (hsm : C.small) (w : World) (h : CfgAt w cv C) : Calls Tryz.prog 93 #[cv, .int .i64 11] w fun e w' => e = .returned (.bool (C.chans.any fun x => x.kind == 1 && x.boot != 0)) ∧ Below w.heap.size w w' := by
  have HC := Kp.mk h
  obtain ⟨ho, pa, pc, ca, cc, a0, c0, a1, c1, rfl, bp, bc, b0, b1, hp, hc, hw0, hw1⟩ := h
  have HP := Kp.mk hc
  have hs2 := hsm.2.1
  clear hp hc hw0 hw1
  obtain ⟨p, hp⟩ : ∃ p : Chn → Bool, p = fun x => x.kind == 1 && x.boot != 0 := ⟨_, rfl⟩
  have HPP := Kp.mk hp
  rw [← hp]
  clear hp
  go_enter Tryz.func93, Tryz.ntmps93
  go_wp2_with fail
  go_loopw [5] (fun i wr => ∃ k : Nat, k ≤ C.chans.length ∧ i = .int .i64 k ∧ Kp (Below w.heap.size w wr) ∧ Kp (wr.heap[w.heap.size]? = some (.cells #[.slice pa C.parts.length pc, .slice ca C.chans.length cc, .int .i64 C.l0, .slice a0 C.w0.length c0, .int .i64 C.l1, .slice a1 C.w1.length c1] 31 (0, 0))) ∧ Kp ((C.chans.take k).any p = false)) (fun i wr => C.chans.length - (intOf i).toNat)
  case atStart => exact ⟨0, Nat.zero_le _, rfl, ⟨below_al (Below.refl _ _) _⟩, ⟨blk_new w _⟩, ⟨rfl⟩⟩
  case round =>
    obtain ⟨k, hk, rfl, HB, HK, HN⟩ := hrel
    have q0 : wr.cell? ⟨w.heap.size, 0, none⟩ = some (.slice pa C.parts.length pc) := (cell_blk HK.out 0).trans rfl
    have q1 : wr.cell? ⟨w.heap.size, 1, none⟩ = some (.slice ca C.chans.length cc) := (cell_blk HK.out 1).trans rfl
    have q2 : wr.cell? ⟨w.heap.size, 2, none⟩ = some (.int .i64 C.l0) := (cell_blk HK.out 2).trans rfl
    have q3 : wr.cell? ⟨w.heap.size, 3, none⟩ = some (.slice a0 C.w0.length c0) := (cell_blk HK.out 3).trans rfl
    have q4 : wr.cell? ⟨w.heap.size, 4, none⟩ = some (.int .i64 C.l1) := (cell_blk HK.out 4).trans rfl
    have q5 : wr.cell? ⟨w.heap.size, 5, none⟩ = some (.slice a1 C.w1.length c1) := (cell_blk HK.out 5).trans rfl
    have l0 := blk_lt HK.out
    by_cases hlt : k < C.chans.length
    · obtain ⟨g, o, hca, hg, hcc⟩ := HP.out.at (by omega)
      obtain ⟨x, hx⟩ : ∃ x, C.chans[k] = x := ⟨_, rfl⟩
      have hcu : ∀ j, j < 7 → wr.cell? ⟨g, o + k * 7 + j, none⟩ = (chanC x)[j]? := fun j hj => by
        have h1 := hcc (k * 7 + j) (by omega)
        rw [flat_at chanC 7 chanC_len C.chans k j hlt hj, hx] at h1
        rw [Nat.add_assoc]
        exact (HB.out.cell (p := ⟨g, o + (k * 7 + j), none⟩) hg).trans h1
      have e0 : wr.cell? ⟨g, o + k * 7, none⟩ = some (.int .i64 x.kind) := hcu 0 (by omega)
      have e1 : wr.cell? ⟨g, o + k * 7 + 1, none⟩ = some (.int .i64 x.frm) := hcu 1 (by omega)
      have e2 : wr.cell? ⟨g, o + k * 7 + 2, none⟩ = some (.int .i64 x.to) := hcu 2 (by omega)
      have e3 : wr.cell? ⟨g, o + k * 7 + 3, none⟩ = some (.int .i64 x.words) := hcu 3 (by omega)
      have e4 : wr.cell? ⟨g, o + k * 7 + 4, none⟩ = some (.int .i64 x.depth) := hcu 4 (by omega)
      have e5 : wr.cell? ⟨g, o + k * 7 + 5, none⟩ = some (.int .i64 x.period) := hcu 5 (by omega)
      have e6 : wr.cell? ⟨g, o + k * 7 + 6, none⟩ = some (.int .u32 x.boot) := hcu 6 (by omega)
      have HA : Kp ((C.chans.take (k + 1)).any p = ((C.chans.take k).any p || p x)) := ⟨by rw [List.take_succ_eq_append_getElem hlt, List.any_append, hx]; simp⟩
      have HX : Kp (x ∈ C.chans) := ⟨hx ▸ List.getElem_mem hlt⟩
      have HY : Kp (p x = true → C.chans.any p = true) := ⟨fun h => List.any_eq_true.2 ⟨x, HX.out, h⟩⟩
      have HN1 : Kp (p x = false → (C.chans.take (k + 1)).any p = false) := ⟨fun h => by rw [HA.out, HN.out, h]; rfl⟩
      have HPX : Kp (p x = (x.kind == 1 && x.boot != 0)) := ⟨by rw [HPP.out]⟩
      subst hca
      clear hcu hcc hx HA HN HX
      obtain ⟨x0, x1, x2, x3, x4, x5, x6⟩ := x
      dsimp only at HPX e0 e1 e2 e3 e4 e5 e6
      go_wp2
      all_goals
        first
          | (go_roundw
             case rel => exact ⟨k + 1, by omega, by go_num, ⟨below_al HB.out _⟩, ⟨blk_al HK.out _⟩, ⟨HN1.out (by rw [HPX.out]; first | rfl | (simp [*]; done) | (simp_all; done))⟩⟩
             case measure => simp [intOf]; omega)
          | (go_ret
             exact ⟨ret_bool (HY.out (by rw [HPX.out]; first | rfl | (simp [*]; done) | (simp_all; done))).symm, below_al HB.out _⟩)
    · obtain rfl : k = C.chans.length := by omega
      have h1 := HN.out
      rw [List.take_length] at h1
      have HF := Kp.mk h1
      clear h1
      go_wp2
      go_ret
      exact ⟨ret_bool HF.out.symm, HB.out⟩
end Go.Proofs.YtmidcnfmphlneaaGreat

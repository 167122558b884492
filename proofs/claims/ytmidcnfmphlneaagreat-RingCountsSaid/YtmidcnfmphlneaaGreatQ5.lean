/- Contracts of the reference of defects: channels (9).; Contracts of the reference of defects: channels (10).; Contracts of the reference of defects: windows (12, 13, 14).; Contracts of the reference of defects: windows (15).; Contracts of the reference of defects: windows (16, the first frame). -/
import Derived.Test.YtmidcnfmphlneaaGreatQ3
import Derived.Test.YtmidcnfmphlneaaGreatQ4
import Derived.Deep.RegionWith
namespace Go.Proofs.YtmidcnfmphlneaaGreat
section
open Go.RowKit
set_option linter.unusedSimpArgs false
set_option linter.unusedVariables false

set_option maxRecDepth 100000 in
set_option maxHeartbeats 4000000 in
theorem chans9_any (cv : Value) (C : Cfg) (hsm : C.small) (w : World) (h : CfgAt w cv C) : Calls Tryz.prog 93 #[cv, .int .i64 9] w fun e w' => e = .returned (.bool (C.chans.any fun x => !deepB x)) ∧ Below w.heap.size w w' := by
  have HC := Kp.mk h
  obtain ⟨ho, pa, pc, ca, cc, a0, c0, a1, c1, rfl, bp, bc, b0, b1, hp, hc, hw0, hw1⟩ := h
  have HP := Kp.mk hc
  have hs2 := hsm.2.1
  clear hp hc hw0 hw1
  obtain ⟨p, hp⟩ : ∃ p : Chn → Bool, p = fun x => !deepB x := ⟨_, rfl⟩
  have HPP := Kp.mk hp
  rw [← hp]
  clear hp
  go_enter Tryz.func93, Tryz.ntmps93
  go_wp2_with fail
  go_loopw [5] (fun i wr => ∃ k : Nat, k ≤ C.chans.length ∧ i = .int .i64 k ∧ Kp (Below w.heap.size w wr) ∧ Kp (wr.heap[w.heap.size]? = some (.cells #[.slice pa C.parts.length pc, .slice ca C.chans.length cc, .int .i64 C.l0, .slice a0 C.w0.length c0, .int .i64 C.l1, .slice a1 C.w1.length c1] 31 (0, 0))) ∧ Kp ((C.chans.take k).any p = false)) (fun i wr => C.chans.length - (intOf i).toNat)
  case atStart => exact ⟨0, Nat.zero_le _, rfl, ⟨below_al (Below.refl _ _) _⟩, ⟨blk_new w _⟩, ⟨rfl⟩⟩
  case round =>
    obtain ⟨k, hk, rfl, HB, HK, HN⟩ := hrel
    have q0 : wr.cell? ⟨w.heap.size, 0, none⟩ = some (.slice pa C.parts.length pc) := (cell_blk HK.out 0).trans rfl
    have q1 : wr.cell? ⟨w.heap.size, 1, none⟩ = some (.slice ca C.chans.length cc) := (cell_blk HK.out 1).trans rfl
    have q2 : wr.cell? ⟨w.heap.size, 2, none⟩ = some (.int .i64 C.l0) := (cell_blk HK.out 2).trans rfl
    have q3 : wr.cell? ⟨w.heap.size, 3, none⟩ = some (.slice a0 C.w0.length c0) := (cell_blk HK.out 3).trans rfl
    have q4 : wr.cell? ⟨w.heap.size, 4, none⟩ = some (.int .i64 C.l1) := (cell_blk HK.out 4).trans rfl
    have q5 : wr.cell? ⟨w.heap.size, 5, none⟩ = some (.slice a1 C.w1.length c1) := (cell_blk HK.out 5).trans rfl
    have l0 := blk_lt HK.out
    by_cases hlt : k < C.chans.length
    · obtain ⟨g, o, hca, hg, hcc⟩ := HP.out.at (by omega)
      obtain ⟨x, hx⟩ : ∃ x, C.chans[k] = x := ⟨_, rfl⟩
      have hcu : ∀ j, j < 7 → wr.cell? ⟨g, o + k * 7 + j, none⟩ = (chanC x)[j]? := fun j hj => by
        have h1 := hcc (k * 7 + j) (by omega)
        rw [flat_at chanC 7 chanC_len C.chans k j hlt hj, hx] at h1
        rw [Nat.add_assoc]
        exact (HB.out.cell (p := ⟨g, o + (k * 7 + j), none⟩) hg).trans h1
      have e0 : wr.cell? ⟨g, o + k * 7, none⟩ = some (.int .i64 x.kind) := hcu 0 (by omega)
      have e1 : wr.cell? ⟨g, o + k * 7 + 1, none⟩ = some (.int .i64 x.frm) := hcu 1 (by omega)
      have e2 : wr.cell? ⟨g, o + k * 7 + 2, none⟩ = some (.int .i64 x.to) := hcu 2 (by omega)
      have e3 : wr.cell? ⟨g, o + k * 7 + 3, none⟩ = some (.int .i64 x.words) := hcu 3 (by omega)
      have e4 : wr.cell? ⟨g, o + k * 7 + 4, none⟩ = some (.int .i64 x.depth) := hcu 4 (by omega)
      have e5 : wr.cell? ⟨g, o + k * 7 + 5, none⟩ = some (.int .i64 x.period) := hcu 5 (by omega)
      have e6 : wr.cell? ⟨g, o + k * 7 + 6, none⟩ = some (.int .u32 x.boot) := hcu 6 (by omega)
      have HA : Kp ((C.chans.take (k + 1)).any p = ((C.chans.take k).any p || p x)) := ⟨by rw [List.take_succ_eq_append_getElem hlt, List.any_append, hx]; simp⟩
      have HX : Kp (x ∈ C.chans) := ⟨hx ▸ List.getElem_mem hlt⟩
      have HY : Kp (p x = true → C.chans.any p = true) := ⟨fun h => List.any_eq_true.2 ⟨x, HX.out, h⟩⟩
      have HN1 : Kp (p x = false → (C.chans.take (k + 1)).any p = false) := ⟨fun h => by rw [HA.out, HN.out, h]; rfl⟩
      have HPX : Kp (p x = (!deepB x)) := ⟨by rw [HPP.out]⟩
      subst hca
      clear hcu hcc hx HA HN HX
      rw [deepB] at HPX
      obtain ⟨x0, x1, x2, x3, x4, x5, x6⟩ := x
      dsimp only at HPX e0 e1 e2 e3 e4 e5 e6
      go_wp2
      all_goals
        first
          | (go_roundw
             case rel => exact ⟨k + 1, by omega, by go_num, ⟨below_al HB.out _⟩, ⟨blk_al HK.out _⟩, ⟨HN1.out (by rw [HPX.out]; first | rfl | (simp [*]; done) | (simp_all; done))⟩⟩
             case measure => simp [intOf]; omega)
          | (go_ret
             exact ⟨ret_bool (HY.out (by rw [HPX.out]; first | rfl | (simp [*]; done) | (simp_all; done))).symm, below_al HB.out _⟩)
    · obtain rfl : k = C.chans.length := by omega
      have h1 := HN.out
      rw [List.take_length] at h1
      have HF := Kp.mk h1
      clear h1
      go_wp2
      go_ret
      exact ⟨ret_bool HF.out.symm, HB.out⟩
end
section
open Go.RowKit
set_option linter.unusedSimpArgs false
set_option linter.unusedVariables false

set_option maxRecDepth 100000 in
set_option maxHeartbeats 4000000 in
theorem chans10_any (cv : Value) (C : Cfg) (hsm : C.small) (w : World) (h : CfgAt w cv C) : Calls Tryz.prog 93 #[cv, .int .i64 10] w fun e w' => e = .returned (.bool (C.chans.any fun x => !freshB x)) ∧ Below w.heap.size w w' := by
  have HC := Kp.mk h
  obtain ⟨ho, pa, pc, ca, cc, a0, c0, a1, c1, rfl, bp, bc, b0, b1, hp, hc, hw0, hw1⟩ := h
  have HP := Kp.mk hc
  have hs2 := hsm.2.1
  clear hp hc hw0 hw1
  obtain ⟨p, hp⟩ : ∃ p : Chn → Bool, p = fun x => !freshB x := ⟨_, rfl⟩
  have HPP := Kp.mk hp
  rw [← hp]
  clear hp
  go_enter Tryz.func93, Tryz.ntmps93
  go_wp2_with fail
  go_loopw [5] (fun i wr => ∃ k : Nat, k ≤ C.chans.length ∧ i = .int .i64 k ∧ Kp (Below w.heap.size w wr) ∧ Kp (wr.heap[w.heap.size]? = some (.cells #[.slice pa C.parts.length pc, .slice ca C.chans.length cc, .int .i64 C.l0, .slice a0 C.w0.length c0, .int .i64 C.l1, .slice a1 C.w1.length c1] 31 (0, 0))) ∧ Kp ((C.chans.take k).any p = false)) (fun i wr => C.chans.length - (intOf i).toNat)
  case atStart => exact ⟨0, Nat.zero_le _, rfl, ⟨below_al (Below.refl _ _) _⟩, ⟨blk_new w _⟩, ⟨rfl⟩⟩
  case round =>
    obtain ⟨k, hk, rfl, HB, HK, HN⟩ := hrel
    have q0 : wr.cell? ⟨w.heap.size, 0, none⟩ = some (.slice pa C.parts.length pc) := (cell_blk HK.out 0).trans rfl
    have q1 : wr.cell? ⟨w.heap.size, 1, none⟩ = some (.slice ca C.chans.length cc) := (cell_blk HK.out 1).trans rfl
    have q2 : wr.cell? ⟨w.heap.size, 2, none⟩ = some (.int .i64 C.l0) := (cell_blk HK.out 2).trans rfl
    have q3 : wr.cell? ⟨w.heap.size, 3, none⟩ = some (.slice a0 C.w0.length c0) := (cell_blk HK.out 3).trans rfl
    have q4 : wr.cell? ⟨w.heap.size, 4, none⟩ = some (.int .i64 C.l1) := (cell_blk HK.out 4).trans rfl
    have q5 : wr.cell? ⟨w.heap.size, 5, none⟩ = some (.slice a1 C.w1.length c1) := (cell_blk HK.out 5).trans rfl
    have l0 := blk_lt HK.out
    by_cases hlt : k < C.chans.length
    · obtain ⟨g, o, hca, hg, hcc⟩ := HP.out.at (by omega)
      obtain ⟨x, hx⟩ : ∃ x, C.chans[k] = x := ⟨_, rfl⟩
      have hcu : ∀ j, j < 7 → wr.cell? ⟨g, o + k * 7 + j, none⟩ = (chanC x)[j]? := fun j hj => by
        have h1 := hcc (k * 7 + j) (by omega)
        rw [flat_at chanC 7 chanC_len C.chans k j hlt hj, hx] at h1
        rw [Nat.add_assoc]
        exact (HB.out.cell (p := ⟨g, o + (k * 7 + j), none⟩) hg).trans h1
      have e0 : wr.cell? ⟨g, o + k * 7, none⟩ = some (.int .i64 x.kind) := hcu 0 (by omega)
      have e1 : wr.cell? ⟨g, o + k * 7 + 1, none⟩ = some (.int .i64 x.frm) := hcu 1 (by omega)
      have e2 : wr.cell? ⟨g, o + k * 7 + 2, none⟩ = some (.int .i64 x.to) := hcu 2 (by omega)
      have e3 : wr.cell? ⟨g, o + k * 7 + 3, none⟩ = some (.int .i64 x.words) := hcu 3 (by omega)
      have e4 : wr.cell? ⟨g, o + k * 7 + 4, none⟩ = some (.int .i64 x.depth) := hcu 4 (by omega)
      have e5 : wr.cell? ⟨g, o + k * 7 + 5, none⟩ = some (.int .i64 x.period) := hcu 5 (by omega)
      have e6 : wr.cell? ⟨g, o + k * 7 + 6, none⟩ = some (.int .u32 x.boot) := hcu 6 (by omega)
      have HA : Kp ((C.chans.take (k + 1)).any p = ((C.chans.take k).any p || p x)) := ⟨by rw [List.take_succ_eq_append_getElem hlt, List.any_append, hx]; simp⟩
      have HX : Kp (x ∈ C.chans) := ⟨hx ▸ List.getElem_mem hlt⟩
      have HY : Kp (p x = true → C.chans.any p = true) := ⟨fun h => List.any_eq_true.2 ⟨x, HX.out, h⟩⟩
      have HN1 : Kp (p x = false → (C.chans.take (k + 1)).any p = false) := ⟨fun h => by rw [HA.out, HN.out, h]; rfl⟩
      have HPX : Kp (p x = (!freshB x)) := ⟨by rw [HPP.out]⟩
      subst hca
      clear hcu hcc hx HA HN HX
      rw [freshB] at HPX
      simp only [inB] at HPX
      obtain ⟨x0, x1, x2, x3, x4, x5, x6⟩ := x
      dsimp only at HPX e0 e1 e2 e3 e4 e5 e6
      go_wp2
      all_goals
        first
          | (go_roundw
             case rel => exact ⟨k + 1, by omega, by go_num, ⟨below_al HB.out _⟩, ⟨blk_al HK.out _⟩, ⟨HN1.out (by rw [HPX.out]; first | rfl | (simp [*]; done) | (simp_all; done))⟩⟩
             case measure => simp [intOf]; omega)
          | (go_ret
             exact ⟨ret_bool (HY.out (by rw [HPX.out]; first | rfl | (simp [*]; done) | (simp_all; done))).symm, below_al HB.out _⟩)
    · obtain rfl : k = C.chans.length := by omega
      have h1 := HN.out
      rw [List.take_length] at h1
      have HF := Kp.mk h1
      clear h1
      go_wp2
      go_ret
      exact ⟨ret_bool HF.out.symm, HB.out⟩
end
section
open Go.RowKit
set_option linter.unusedSimpArgs false
set_option linter.unusedVariables false

theorem quiet_joined {P : Program} {f : FuncId} {args : Array Value} {w : World} {m n : Nat} {v : Value} (h : Calls P f args (w.drewN (m + n)) fun e w' => e = .returned v ∧ w' = w.drewN (m + n)) :
    Calls P f args (w.drewN (m + n)) fun e w'' => e = .returned v ∧ ∃ k, w'' = w.drewN (m + k) := h.mono fun _ _ ⟨he, hm⟩ => ⟨he, n, hm⟩
set_option maxHeartbeats 400000 in
theorem word07_same (n : Int) (b : Bool) (hb : wordB n = b) (w : World) : Calls Tryz.prog 104 #[.int .i64 n] w fun e w' => e = .returned (.bool b) ∧ w' = w := by
  subst hb
  by_cases h1 : 0 ≤ n
  · by_cases h2 : n ≤ 4294967295
    · go_enter Tryz.func104, Tryz.ntmps104
      go_wp2
      go_ret
      exact ⟨ret_bool (inB_true ⟨h1, h2⟩).symm, rfl⟩
    · have h3 : decide (n ≤ 4294967295) = false := decide_eq_false h2
      go_enter Tryz.func104, Tryz.ntmps104
      go_wp2
      go_ret
      exact ⟨ret_bool (inB_false (by omega)).symm, rfl⟩
  · have h3 : decide (0 ≤ n) = false := decide_eq_false h1
    go_enter Tryz.func104, Tryz.ntmps104
    go_wp2
    go_ret
    exact ⟨ret_bool (inB_false (by omega)).symm, rfl⟩

set_option maxRecDepth 100000 in
set_option maxHeartbeats 4000000 in
theorem windows120_any (cv : Value) (C : Cfg) (hsm : C.small) (w : World) (h : CfgAt w cv C) : Calls Tryz.prog 94 #[cv, .int .i64 0, .int .i64 12] w fun e w' => e = .returned (.bool (!inB C.l0 1 64)) ∧ Below w.heap.size w w' := by
  have HC := Kp.mk h
  obtain ⟨ho, pa, pc, ca, cc, a0, c0, a1, c1, rfl, bp, bc, b0, b1, hp, hc, hw0, hw1⟩ := h
  have HW := Kp.mk hw0
  have HPT := Kp.mk hp
  have hs3 := hsm.2.2.1
  have hlen : I64 C.l0 := by first | exact ho.2.2.1 | exact ho.2.2.2.1
  clear hp hc hw0 hw1 ho
  by_cases h1 : C.l0 < 1
  · have HV : Kp (inB C.l0 1 64 = false) := ⟨inB_false (by omega)⟩
    go_enter Tryz.func94, Tryz.ntmps94
    go_wp2
    go_ret
    exact ⟨ret_bool (by rw [HV.out]; rfl), (by repeat (first | exact Below.refl _ _ | apply below_al))⟩
  · have h1' : decide (C.l0 < 1) = false := decide_eq_false h1
    by_cases h2 : 64 < C.l0
    · have HV : Kp (inB C.l0 1 64 = false) := ⟨inB_false (by omega)⟩
      go_enter Tryz.func94, Tryz.ntmps94
      go_wp2
      go_ret
      exact ⟨ret_bool (by rw [HV.out]; rfl), (by repeat (first | exact Below.refl _ _ | apply below_al))⟩
    · have h2' : decide (64 < C.l0) = false := decide_eq_false h2
      have HV : Kp (inB C.l0 1 64 = true) := ⟨inB_true (by omega)⟩
      go_enter Tryz.func94, Tryz.ntmps94
      go_wp2
      go_ret
      exact ⟨ret_bool (by rw [HV.out]; rfl), (by repeat (first | exact Below.refl _ _ | apply below_al))⟩

set_option maxRecDepth 100000 in
set_option maxHeartbeats 4000000 in
theorem windows121_any (cv : Value) (C : Cfg) (hsm : C.small) (w : World) (h : CfgAt w cv C) : Calls Tryz.prog 94 #[cv, .int .i64 1, .int .i64 12] w fun e w' => e = .returned (.bool (!inB C.l1 1 64)) ∧ Below w.heap.size w w' := by
  have HC := Kp.mk h
  obtain ⟨ho, pa, pc, ca, cc, a0, c0, a1, c1, rfl, bp, bc, b0, b1, hp, hc, hw0, hw1⟩ := h
  have HW := Kp.mk hw1
  have HPT := Kp.mk hp
  have hs3 := hsm.2.2.2
  have hlen : I64 C.l1 := by first | exact ho.2.2.1 | exact ho.2.2.2.1
  clear hp hc hw0 hw1 ho
  by_cases h1 : C.l1 < 1
  · have HV : Kp (inB C.l1 1 64 = false) := ⟨inB_false (by omega)⟩
    go_enter Tryz.func94, Tryz.ntmps94
    go_wp2
    go_ret
    exact ⟨ret_bool (by rw [HV.out]; rfl), (by repeat (first | exact Below.refl _ _ | apply below_al))⟩
  · have h1' : decide (C.l1 < 1) = false := decide_eq_false h1
    by_cases h2 : 64 < C.l1
    · have HV : Kp (inB C.l1 1 64 = false) := ⟨inB_false (by omega)⟩
      go_enter Tryz.func94, Tryz.ntmps94
      go_wp2
      go_ret
      exact ⟨ret_bool (by rw [HV.out]; rfl), (by repeat (first | exact Below.refl _ _ | apply below_al))⟩
    · have h2' : decide (64 < C.l1) = false := decide_eq_false h2
      have HV : Kp (inB C.l1 1 64 = true) := ⟨inB_true (by omega)⟩
      go_enter Tryz.func94, Tryz.ntmps94
      go_wp2
      go_ret
      exact ⟨ret_bool (by rw [HV.out]; rfl), (by repeat (first | exact Below.refl _ _ | apply below_al))⟩

set_option maxRecDepth 100000 in
set_option maxHeartbeats 4000000 in
theorem windows130_any (cv : Value) (C : Cfg) (hsm : C.small) (w : World) (h : CfgAt w cv C) : Calls Tryz.prog 94 #[cv, .int .i64 0, .int .i64 13] w fun e w' => e = .returned (.bool (decide (16 < C.w0.length))) ∧ Below w.heap.size w w' := by
  have HC := Kp.mk h
  obtain ⟨ho, pa, pc, ca, cc, a0, c0, a1, c1, rfl, bp, bc, b0, b1, hp, hc, hw0, hw1⟩ := h
  have HW := Kp.mk hw0
  have HPT := Kp.mk hp
  have hs3 := hsm.2.2.1
  have hlen : I64 C.l0 := by first | exact ho.2.2.1 | exact ho.2.2.2.1
  clear hp hc hw0 hw1 ho
  go_enter Tryz.func94, Tryz.ntmps94
  go_wp2
  go_ret
  exact ⟨ret_bool (by rw [decide_eq_decide]; omega), (by repeat (first | exact Below.refl _ _ | apply below_al))⟩

set_option maxRecDepth 100000 in
set_option maxHeartbeats 4000000 in
theorem windows131_any (cv : Value) (C : Cfg) (hsm : C.small) (w : World) (h : CfgAt w cv C) : Calls Tryz.prog 94 #[cv, .int .i64 1, .int .i64 13] w fun e w' => e = .returned (.bool (decide (16 < C.w1.length))) ∧ Below w.heap.size w w' := by
  have HC := Kp.mk h
  obtain ⟨ho, pa, pc, ca, cc, a0, c0, a1, c1, rfl, bp, bc, b0, b1, hp, hc, hw0, hw1⟩ := h
  have HW := Kp.mk hw1
  have HPT := Kp.mk hp
  have hs3 := hsm.2.2.2
  have hlen : I64 C.l1 := by first | exact ho.2.2.1 | exact ho.2.2.2.1
  clear hp hc hw0 hw1 ho
  go_enter Tryz.func94, Tryz.ntmps94
  go_wp2
  go_ret
  exact ⟨ret_bool (by rw [decide_eq_decide]; omega), (by repeat (first | exact Below.refl _ _ | apply below_al))⟩

set_option maxRecDepth 100000 in
set_option maxHeartbeats 4000000 in
theorem windows140_any (cv : Value) (C : Cfg) (hsm : C.small) (w : World) (h : CfgAt w cv C) : Calls Tryz.prog 94 #[cv, .int .i64 0, .int .i64 14] w fun e w' => e = .returned (.bool (C.w0.any (foreignB C false))) ∧ Below w.heap.size w w' := by
  have HC := Kp.mk h
  obtain ⟨ho, pa, pc, ca, cc, a0, c0, a1, c1, rfl, bp, bc, b0, b1, hp, hc, hw0, hw1⟩ := h
  have HW := Kp.mk hw0
  have HPT := Kp.mk hp
  have hs3 := hsm.2.2.1
  have hlen : I64 C.l0 := by first | exact ho.2.2.1 | exact ho.2.2.2.1
  clear hp hc hw0 hw1 ho
  obtain ⟨p, hpp⟩ : ∃ p : Win → Bool, p = foreignB C false := ⟨_, rfl⟩
  have HPP := Kp.mk hpp
  rw [← hpp]
  clear hpp
  go_enter Tryz.func94, Tryz.ntmps94
  go_wp2_with fail
  go_loopw [8] (fun i wr => ∃ k : Nat, k ≤ C.w0.length ∧ i = .int .i64 k ∧ Kp (Below w.heap.size w wr) ∧ Kp (wr.heap[w.heap.size]? = some (.cells #[.slice pa C.parts.length pc, .slice ca C.chans.length cc, .int .i64 C.l0, .slice a0 C.w0.length c0, .int .i64 C.l1, .slice a1 C.w1.length c1] 31 (0, 0))) ∧ Kp ((C.w0.take k).any p = false)) (fun i wr => C.w0.length - (intOf i).toNat)
  case atStart => exact ⟨0, Nat.zero_le _, rfl, ⟨below_al (Below.refl _ _) _⟩, ⟨blk_new w _⟩, ⟨rfl⟩⟩
  case round =>
    obtain ⟨k, hk, rfl, HB, HK, HN⟩ := hrel
    have q0 : wr.cell? ⟨w.heap.size, 0, none⟩ = some (.slice pa C.parts.length pc) := (cell_blk HK.out 0).trans rfl
    have q1 : wr.cell? ⟨w.heap.size, 1, none⟩ = some (.slice ca C.chans.length cc) := (cell_blk HK.out 1).trans rfl
    have q2 : wr.cell? ⟨w.heap.size, 2, none⟩ = some (.int .i64 C.l0) := (cell_blk HK.out 2).trans rfl
    have q3 : wr.cell? ⟨w.heap.size, 3, none⟩ = some (.slice a0 C.w0.length c0) := (cell_blk HK.out 3).trans rfl
    have q4 : wr.cell? ⟨w.heap.size, 4, none⟩ = some (.int .i64 C.l1) := (cell_blk HK.out 4).trans rfl
    have q5 : wr.cell? ⟨w.heap.size, 5, none⟩ = some (.slice a1 C.w1.length c1) := (cell_blk HK.out 5).trans rfl
    have l0 := blk_lt HK.out
    by_cases hlt : k < C.w0.length
    · obtain ⟨g, o, ha, hg, hcc⟩ := HW.out.at (by omega)
      obtain ⟨x, hx⟩ : ∃ x, C.w0[k] = x := ⟨_, rfl⟩
      have hcu : ∀ j, j < 3 → wr.cell? ⟨g, o + k * 3 + j, none⟩ = (winC x)[j]? := fun j hj => by
        have h1 := hcc (k * 3 + j) (by omega)
        rw [flat_at winC 3 winC_len C.w0 k j hlt hj, hx] at h1
        rw [Nat.add_assoc]
        exact (HB.out.cell (p := ⟨g, o + (k * 3 + j), none⟩) hg).trans h1
      have e0 : wr.cell? ⟨g, o + k * 3, none⟩ = some (.int .i64 x.part) := hcu 0 (by omega)
      have e1 : wr.cell? ⟨g, o + k * 3 + 1, none⟩ = some (.int .i64 x.start) := hcu 1 (by omega)
      have e2 : wr.cell? ⟨g, o + k * 3 + 2, none⟩ = some (.int .i64 x.len) := hcu 2 (by omega)
      have hgw : g < wr.heap.size := Nat.lt_of_lt_of_le hg HB.out.size
      have HA : Kp ((C.w0.take (k + 1)).any p = ((C.w0.take k).any p || p x)) := ⟨by rw [List.take_succ_eq_append_getElem hlt, List.any_append, hx]; simp⟩
      have HX : Kp (x ∈ C.w0) := ⟨hx ▸ List.getElem_mem hlt⟩
      have HY : Kp (p x = true → C.w0.any p = true) := ⟨fun h => List.any_eq_true.2 ⟨x, HX.out, h⟩⟩
      have HN1 : Kp (p x = false → (C.w0.take (k + 1)).any p = false) := ⟨fun h => by rw [HA.out, HN.out, h]; rfl⟩
      have HPX : Kp (p x = foreignB C false x) := ⟨by rw [HPP.out]⟩
      subst ha
      clear hcu hcc hx HA HN HX
      obtain ⟨pt, st, ln⟩ := x
      dsimp only at e0 e1 e2 HPX
      cases hs : strangeB C pt with
      | true =>
        have HT := Kp.mk (HY.out (by rw [HPX.out, foreignB, hs]; rfl))
        have HS := Kp.mk hs
        clear hs
        go_wp2_with fail
        refine (part07_any _ C pt true HS.out _ (HC.out.below (below_al HB.out _))).mono ?_
        rintro e w1 ⟨rfl, hb1⟩
        have HB1 : Kp (Below w.heap.size w w1) := ⟨below_call (below_al HB.out _) hb1⟩
        clear hb1
        go_wp2
        go_ret
        exact ⟨ret_bool HT.out.symm, HB1.out⟩
      | false =>
        have hin : ∃ j : Nat, pt = (j : Int) ∧ j < C.parts.length := by
          simp only [strangeB, Bool.not_eq_false', inB_iff] at hs
          exact ⟨pt.toNat, by omega, by omega⟩
        obtain ⟨j, rfl, hj⟩ := hin
        obtain ⟨y, hy⟩ : ∃ y, C.parts[j] = y := ⟨_, rfl⟩
        have HV : Kp (p ⟨(j : Int), st, ln⟩ = (y.1 != 0)) := ⟨by rw [HPX.out, foreignB, hs]; simp [hj, hy, cI]⟩
        obtain ⟨g2, o2, hpa, hg2, hcc2⟩ := HPT.out.at (by omega)
        have hcj := hcc2 (j * 2 + 0) (by omega)
        rw [flat_at partC 2 partC_len C.parts j 0 hj (by omega), hy] at hcj
        have hcj2 := hcc2 (j * 2 + 1) (by omega)
        rw [flat_at partC 2 partC_len C.parts j 1 hj (by omega), hy] at hcj2
        have HCJ : Kp (w.cell? ⟨g2, o2 + j * 2, none⟩ = some (.int .i64 y.1)) := ⟨hcj⟩
        have HCJ2 : Kp (w.cell? ⟨g2, o2 + j * 2 + 1, none⟩ = some (.int .i64 y.2)) := ⟨hcj2⟩
        have HS := Kp.mk hs
        have hj0 : (0 : Int) ≤ (j : Int) := by omega
        have hj1 : (j : Int) < (C.parts.length : Int) := by omega
        subst hpa
        obtain ⟨y1, y2⟩ := y
        dsimp only at HV HCJ HCJ2
        clear hcj hcj2 hcc2 hs hy HPX
        go_wp2_with fail
        refine (part07_any _ C (j : Int) false HS.out _ (HC.out.below (below_al HB.out _))).mono ?_
        rintro e w1 ⟨rfl, hb1⟩
        have HB1 : Kp (Below w.heap.size w w1) := ⟨below_call (below_al HB.out _) hb1⟩
        have K0 : w1.heap[w.heap.size]? = some (.cells #[.slice (some ⟨g2, o2, none⟩) C.parts.length pc, .slice ca C.chans.length cc, .int .i64 C.l0, .slice (some ⟨g, o, none⟩) C.w0.length c0, .int .i64 C.l1, .slice a1 C.w1.length c1] 31 (0, 0)) := blk_below (blk_al HK.out _) hb1
        have K1 : w1.heap[wr.heap.size]? = some (.cells #[.int .i64 (j : Int), .int .i64 st, .int .i64 ln] 99 (0, 0)) := blk_below (blk_new wr _) hb1
        have HK1 := Kp.mk K0
        have r0 : w1.cell? ⟨w.heap.size, 0, none⟩ = some (.slice (some ⟨g2, o2, none⟩) C.parts.length pc) := (cell_blk K0 0).trans rfl
        have r1 : w1.cell? ⟨wr.heap.size, 0, none⟩ = some (.int .i64 (j : Int)) := (cell_blk K1 0).trans rfl
        have r2 : w1.cell? ⟨g2, o2 + j * 2, none⟩ = some (.int .i64 y1) := (HB1.out.cell (p := ⟨g2, _, none⟩) hg2).trans HCJ.out
        have l1 := blk_lt K0
        have l2 := blk_lt K1
        clear hb1 K0 K1
        by_cases hz : y1 = 0
        · have hz1 : (y1 != 0) = false := by simpa using hz
          have HN2 := Kp.mk (HN1.out (by rw [HV.out, hz1]))
          clear hz HV
          go_wp2_with fail
          go_quiet (fail)
          go_wp2_with fail
          go_quiet (fail)
          go_wp2
          go_roundw
          case rel => exact ⟨k + 1, by omega, by go_num, ⟨(by repeat (first | exact HB1.out | apply below_drN | apply below_al))⟩, HK1, HN2⟩
          case measure => simp [intOf]; omega
        · have hz1 : (y1 != 0) = true := by simpa using hz
          have HT := Kp.mk (HY.out (by rw [HV.out, hz1]))
          clear hz HV
          go_wp2
          go_ret
          exact ⟨ret_bool HT.out.symm, HB1.out⟩
    · obtain rfl : k = C.w0.length := by omega
      have h1 := HN.out
      rw [List.take_length] at h1
      have HF := Kp.mk h1
      clear h1
      go_wp2
      go_ret
      exact ⟨ret_bool HF.out.symm, HB.out⟩

set_option maxRecDepth 100000 in
set_option maxHeartbeats 4000000 in
theorem windows141_any (cv : Value) (C : Cfg) (hsm : C.small) (w : World) (h : CfgAt w cv C) : Calls Tryz.prog 94 #[cv, .int .i64 1, .int .i64 14] w fun e w' => e = .returned (.bool (C.w1.any (foreignB C true))) ∧ Below w.heap.size w w' := by
  have HC := Kp.mk h
  obtain ⟨ho, pa, pc, ca, cc, a0, c0, a1, c1, rfl, bp, bc, b0, b1, hp, hc, hw0, hw1⟩ := h
  have HW := Kp.mk hw1
  have HPT := Kp.mk hp
  have hs3 := hsm.2.2.2
  have hlen : I64 C.l1 := by first | exact ho.2.2.1 | exact ho.2.2.2.1
  clear hp hc hw0 hw1 ho
  obtain ⟨p, hpp⟩ : ∃ p : Win → Bool, p = foreignB C true := ⟨_, rfl⟩
  have HPP := Kp.mk hpp
  rw [← hpp]
  clear hpp
  go_enter Tryz.func94, Tryz.ntmps94
  go_wp2_with fail
  go_loopw [8] (fun i wr => ∃ k : Nat, k ≤ C.w1.length ∧ i = .int .i64 k ∧ Kp (Below w.heap.size w wr) ∧ Kp (wr.heap[w.heap.size]? = some (.cells #[.slice pa C.parts.length pc, .slice ca C.chans.length cc, .int .i64 C.l0, .slice a0 C.w0.length c0, .int .i64 C.l1, .slice a1 C.w1.length c1] 31 (0, 0))) ∧ Kp ((C.w1.take k).any p = false)) (fun i wr => C.w1.length - (intOf i).toNat)
  case atStart => exact ⟨0, Nat.zero_le _, rfl, ⟨below_al (Below.refl _ _) _⟩, ⟨blk_new w _⟩, ⟨rfl⟩⟩
  case round =>
    obtain ⟨k, hk, rfl, HB, HK, HN⟩ := hrel
    have q0 : wr.cell? ⟨w.heap.size, 0, none⟩ = some (.slice pa C.parts.length pc) := (cell_blk HK.out 0).trans rfl
    have q1 : wr.cell? ⟨w.heap.size, 1, none⟩ = some (.slice ca C.chans.length cc) := (cell_blk HK.out 1).trans rfl
    have q2 : wr.cell? ⟨w.heap.size, 2, none⟩ = some (.int .i64 C.l0) := (cell_blk HK.out 2).trans rfl
    have q3 : wr.cell? ⟨w.heap.size, 3, none⟩ = some (.slice a0 C.w0.length c0) := (cell_blk HK.out 3).trans rfl
    have q4 : wr.cell? ⟨w.heap.size, 4, none⟩ = some (.int .i64 C.l1) := (cell_blk HK.out 4).trans rfl
    have q5 : wr.cell? ⟨w.heap.size, 5, none⟩ = some (.slice a1 C.w1.length c1) := (cell_blk HK.out 5).trans rfl
    have l0 := blk_lt HK.out
    by_cases hlt : k < C.w1.length
    · obtain ⟨g, o, ha, hg, hcc⟩ := HW.out.at (by omega)
      obtain ⟨x, hx⟩ : ∃ x, C.w1[k] = x := ⟨_, rfl⟩
      have hcu : ∀ j, j < 3 → wr.cell? ⟨g, o + k * 3 + j, none⟩ = (winC x)[j]? := fun j hj => by
        have h1 := hcc (k * 3 + j) (by omega)
        rw [flat_at winC 3 winC_len C.w1 k j hlt hj, hx] at h1
        rw [Nat.add_assoc]
        exact (HB.out.cell (p := ⟨g, o + (k * 3 + j), none⟩) hg).trans h1
      have e0 : wr.cell? ⟨g, o + k * 3, none⟩ = some (.int .i64 x.part) := hcu 0 (by omega)
      have e1 : wr.cell? ⟨g, o + k * 3 + 1, none⟩ = some (.int .i64 x.start) := hcu 1 (by omega)
      have e2 : wr.cell? ⟨g, o + k * 3 + 2, none⟩ = some (.int .i64 x.len) := hcu 2 (by omega)
      have hgw : g < wr.heap.size := Nat.lt_of_lt_of_le hg HB.out.size
      have HA : Kp ((C.w1.take (k + 1)).any p = ((C.w1.take k).any p || p x)) := ⟨by rw [List.take_succ_eq_append_getElem hlt, List.any_append, hx]; simp⟩
      have HX : Kp (x ∈ C.w1) := ⟨hx ▸ List.getElem_mem hlt⟩
      have HY : Kp (p x = true → C.w1.any p = true) := ⟨fun h => List.any_eq_true.2 ⟨x, HX.out, h⟩⟩
      have HN1 : Kp (p x = false → (C.w1.take (k + 1)).any p = false) := ⟨fun h => by rw [HA.out, HN.out, h]; rfl⟩
      have HPX : Kp (p x = foreignB C true x) := ⟨by rw [HPP.out]⟩
      subst ha
      clear hcu hcc hx HA HN HX
      obtain ⟨pt, st, ln⟩ := x
      dsimp only at e0 e1 e2 HPX
      cases hs : strangeB C pt with
      | true =>
        have HT := Kp.mk (HY.out (by rw [HPX.out, foreignB, hs]; rfl))
        have HS := Kp.mk hs
        clear hs
        go_wp2_with fail
        refine (part07_any _ C pt true HS.out _ (HC.out.below (below_al HB.out _))).mono ?_
        rintro e w1 ⟨rfl, hb1⟩
        have HB1 : Kp (Below w.heap.size w w1) := ⟨below_call (below_al HB.out _) hb1⟩
        clear hb1
        go_wp2
        go_ret
        exact ⟨ret_bool HT.out.symm, HB1.out⟩
      | false =>
        have hin : ∃ j : Nat, pt = (j : Int) ∧ j < C.parts.length := by
          simp only [strangeB, Bool.not_eq_false', inB_iff] at hs
          exact ⟨pt.toNat, by omega, by omega⟩
        obtain ⟨j, rfl, hj⟩ := hin
        obtain ⟨y, hy⟩ : ∃ y, C.parts[j] = y := ⟨_, rfl⟩
        have HV : Kp (p ⟨(j : Int), st, ln⟩ = (y.1 != 1)) := ⟨by rw [HPX.out, foreignB, hs]; simp [hj, hy, cI]⟩
        obtain ⟨g2, o2, hpa, hg2, hcc2⟩ := HPT.out.at (by omega)
        have hcj := hcc2 (j * 2 + 0) (by omega)
        rw [flat_at partC 2 partC_len C.parts j 0 hj (by omega), hy] at hcj
        have hcj2 := hcc2 (j * 2 + 1) (by omega)
        rw [flat_at partC 2 partC_len C.parts j 1 hj (by omega), hy] at hcj2
        have HCJ : Kp (w.cell? ⟨g2, o2 + j * 2, none⟩ = some (.int .i64 y.1)) := ⟨hcj⟩
        have HCJ2 : Kp (w.cell? ⟨g2, o2 + j * 2 + 1, none⟩ = some (.int .i64 y.2)) := ⟨hcj2⟩
        have HS := Kp.mk hs
        have hj0 : (0 : Int) ≤ (j : Int) := by omega
        have hj1 : (j : Int) < (C.parts.length : Int) := by omega
        subst hpa
        obtain ⟨y1, y2⟩ := y
        dsimp only at HV HCJ HCJ2
        clear hcj hcj2 hcc2 hs hy HPX
        go_wp2_with fail
        refine (part07_any _ C (j : Int) false HS.out _ (HC.out.below (below_al HB.out _))).mono ?_
        rintro e w1 ⟨rfl, hb1⟩
        have HB1 : Kp (Below w.heap.size w w1) := ⟨below_call (below_al HB.out _) hb1⟩
        have K0 : w1.heap[w.heap.size]? = some (.cells #[.slice (some ⟨g2, o2, none⟩) C.parts.length pc, .slice ca C.chans.length cc, .int .i64 C.l0, .slice a0 C.w0.length c0, .int .i64 C.l1, .slice (some ⟨g, o, none⟩) C.w1.length c1] 31 (0, 0)) := blk_below (blk_al HK.out _) hb1
        have K1 : w1.heap[wr.heap.size]? = some (.cells #[.int .i64 (j : Int), .int .i64 st, .int .i64 ln] 99 (0, 0)) := blk_below (blk_new wr _) hb1
        have HK1 := Kp.mk K0
        have r0 : w1.cell? ⟨w.heap.size, 0, none⟩ = some (.slice (some ⟨g2, o2, none⟩) C.parts.length pc) := (cell_blk K0 0).trans rfl
        have r1 : w1.cell? ⟨wr.heap.size, 0, none⟩ = some (.int .i64 (j : Int)) := (cell_blk K1 0).trans rfl
        have r2 : w1.cell? ⟨g2, o2 + j * 2, none⟩ = some (.int .i64 y1) := (HB1.out.cell (p := ⟨g2, _, none⟩) hg2).trans HCJ.out
        have l1 := blk_lt K0
        have l2 := blk_lt K1
        clear hb1 K0 K1
        by_cases hz : y1 = 1
        · have hz1 : (y1 != 1) = false := by simpa using hz
          have HN2 := Kp.mk (HN1.out (by rw [HV.out, hz1]))
          clear hz HV
          go_wp2_with fail
          go_quiet (fail)
          go_wp2_with fail
          go_quiet (fail)
          go_wp2
          go_roundw
          case rel => exact ⟨k + 1, by omega, by go_num, ⟨(by repeat (first | exact HB1.out | apply below_drN | apply below_al))⟩, HK1, HN2⟩
          case measure => simp [intOf]; omega
        · have hz1 : (y1 != 1) = true := by simpa using hz
          have HT := Kp.mk (HY.out (by rw [HV.out, hz1]))
          clear hz HV
          go_wp2
          go_ret
          exact ⟨ret_bool HT.out.symm, HB1.out⟩
    · obtain rfl : k = C.w1.length := by omega
      have h1 := HN.out
      rw [List.take_length] at h1
      have HF := Kp.mk h1
      clear h1
      go_wp2
      go_ret
      exact ⟨ret_bool HF.out.symm, HB.out⟩
end
section
open Go.RowKit
set_option linter.unusedSimpArgs false
set_option linter.unusedVariables false

set_option maxRecDepth 100000 in
set_option maxHeartbeats 4000000 in
theorem windows150_any (cv : Value) (C : Cfg) (hsm : C.small) (w : World) (h : CfgAt w cv C) : Calls Tryz.prog 94 #[cv, .int .i64 0, .int .i64 15] w fun e w' => e = .returned (.bool (C.w0.any (outsideB C false))) ∧ Below w.heap.size w w' := by
  have HC := Kp.mk h
  obtain ⟨ho, pa, pc, ca, cc, a0, c0, a1, c1, rfl, bp, bc, b0, b1, hp, hc, hw0, hw1⟩ := h
  have HW := Kp.mk hw0
  have HPT := Kp.mk hp
  have hs3 := hsm.2.2.1
  have hlen : I64 C.l0 := by first | exact ho.2.2.1 | exact ho.2.2.2.1
  clear hp hc hw0 hw1 ho
  obtain ⟨p, hpp⟩ : ∃ p : Win → Bool, p = outsideB C false := ⟨_, rfl⟩
  have HPP := Kp.mk hpp
  rw [← hpp]
  clear hpp
  go_enter Tryz.func94, Tryz.ntmps94
  go_wp2_with fail
  go_loopw [8] (fun i wr => ∃ k : Nat, k ≤ C.w0.length ∧ i = .int .i64 k ∧ Kp (Below w.heap.size w wr) ∧ Kp (wr.heap[w.heap.size]? = some (.cells #[.slice pa C.parts.length pc, .slice ca C.chans.length cc, .int .i64 C.l0, .slice a0 C.w0.length c0, .int .i64 C.l1, .slice a1 C.w1.length c1] 31 (0, 0))) ∧ Kp ((C.w0.take k).any p = false)) (fun i wr => C.w0.length - (intOf i).toNat)
  case atStart => exact ⟨0, Nat.zero_le _, rfl, ⟨below_al (Below.refl _ _) _⟩, ⟨blk_new w _⟩, ⟨rfl⟩⟩
  case round =>
    obtain ⟨k, hk, rfl, HB, HK, HN⟩ := hrel
    have q0 : wr.cell? ⟨w.heap.size, 0, none⟩ = some (.slice pa C.parts.length pc) := (cell_blk HK.out 0).trans rfl
    have q1 : wr.cell? ⟨w.heap.size, 1, none⟩ = some (.slice ca C.chans.length cc) := (cell_blk HK.out 1).trans rfl
    have q2 : wr.cell? ⟨w.heap.size, 2, none⟩ = some (.int .i64 C.l0) := (cell_blk HK.out 2).trans rfl
    have q3 : wr.cell? ⟨w.heap.size, 3, none⟩ = some (.slice a0 C.w0.length c0) := (cell_blk HK.out 3).trans rfl
    have q4 : wr.cell? ⟨w.heap.size, 4, none⟩ = some (.int .i64 C.l1) := (cell_blk HK.out 4).trans rfl
    have q5 : wr.cell? ⟨w.heap.size, 5, none⟩ = some (.slice a1 C.w1.length c1) := (cell_blk HK.out 5).trans rfl
    have l0 := blk_lt HK.out
    by_cases hlt : k < C.w0.length
    · obtain ⟨g, o, ha, hg, hcc⟩ := HW.out.at (by omega)
      obtain ⟨x, hx⟩ : ∃ x, C.w0[k] = x := ⟨_, rfl⟩
      have hcu : ∀ j, j < 3 → wr.cell? ⟨g, o + k * 3 + j, none⟩ = (winC x)[j]? := fun j hj => by
        have h1 := hcc (k * 3 + j) (by omega)
        rw [flat_at winC 3 winC_len C.w0 k j hlt hj, hx] at h1
        rw [Nat.add_assoc]
        exact (HB.out.cell (p := ⟨g, o + (k * 3 + j), none⟩) hg).trans h1
      have e0 : wr.cell? ⟨g, o + k * 3, none⟩ = some (.int .i64 x.part) := hcu 0 (by omega)
      have e1 : wr.cell? ⟨g, o + k * 3 + 1, none⟩ = some (.int .i64 x.start) := hcu 1 (by omega)
      have e2 : wr.cell? ⟨g, o + k * 3 + 2, none⟩ = some (.int .i64 x.len) := hcu 2 (by omega)
      have hgw : g < wr.heap.size := Nat.lt_of_lt_of_le hg HB.out.size
      have HA : Kp ((C.w0.take (k + 1)).any p = ((C.w0.take k).any p || p x)) := ⟨by rw [List.take_succ_eq_append_getElem hlt, List.any_append, hx]; simp⟩
      have HX : Kp (x ∈ C.w0) := ⟨hx ▸ List.getElem_mem hlt⟩
      have HY : Kp (p x = true → C.w0.any p = true) := ⟨fun h => List.any_eq_true.2 ⟨x, HX.out, h⟩⟩
      have HN1 : Kp (p x = false → (C.w0.take (k + 1)).any p = false) := ⟨fun h => by rw [HA.out, HN.out, h]; rfl⟩
      have HPX : Kp (p x = outsideB C false x) := ⟨by rw [HPP.out]⟩
      subst ha
      clear hcu hcc hx HA HN HX
      obtain ⟨pt, st, ln⟩ := x
      dsimp only at e0 e1 e2 HPX
      have hle := hlen.le
      have HP2 : Kp (p ⟨pt, st, ln⟩ = (decide (st < 0) || decide (ln < 1) || (decide (C.l0 < st) || decide (C.l0 - st < ln)))) := HPX
      clear HPX
      by_cases h1 : st < 0
      · have HT := Kp.mk (HY.out (by rw [HP2.out, decide_eq_true h1]; rfl))
        go_wp2_with fail
        go_quiet (fail)
        go_wp2
        go_ret
        exact ⟨ret_bool HT.out.symm, below_drN (below_al HB.out _)⟩
      · have h1' : decide (st < 0) = false := decide_eq_false h1
        by_cases h2 : ln < 1
        · have HT := Kp.mk (HY.out (by rw [HP2.out, h1', decide_eq_true h2]; rfl))
          go_wp2_with fail
          go_quiet (fail)
          go_wp2
          go_ret
          exact ⟨ret_bool HT.out.symm, below_drN (below_al HB.out _)⟩
        · have h2' : decide (ln < 1) = false := decide_eq_false h2
          by_cases h3 : C.l0 < st
          · have HT := Kp.mk (HY.out (by rw [HP2.out, h1', h2', decide_eq_true h3]; rfl))
            go_wp2_with fail
            go_quiet (fail)
            go_wp2
            go_ret
            exact ⟨ret_bool HT.out.symm, below_drN (below_al HB.out _)⟩
          · have h3' : decide (C.l0 < st) = false := decide_eq_false h3
            have s1 : IntKind.i64.wrap (C.l0 - st) = C.l0 - st := IntWalk.i64_in _ (by omega)
            by_cases h4 : C.l0 - st < ln
            · have HT := Kp.mk (HY.out (by rw [HP2.out, h1', h2', h3', decide_eq_true h4]; rfl))
              go_wp2_with fail
              go_quiet (fail)
              go_wp2
              go_ret
              exact ⟨ret_bool HT.out.symm, below_drN (below_al HB.out _)⟩
            · have h4' : decide (C.l0 - st < ln) = false := decide_eq_false h4
              have HN2 := Kp.mk (HN1.out (by rw [HP2.out, h1', h2', h3', h4']; rfl))
              go_wp2_with fail
              go_quiet (fail)
              go_wp2_with fail
              go_quiet (fail)
              go_wp2
              go_roundw
              case rel => exact ⟨k + 1, by omega, by go_num, ⟨(by repeat (first | exact HB.out | apply below_drN | apply below_al))⟩, ⟨blk_al HK.out _⟩, HN2⟩
              case measure => simp [intOf]; omega
    · obtain rfl : k = C.w0.length := by omega
      have h1 := HN.out
      rw [List.take_length] at h1
      have HF := Kp.mk h1
      clear h1
      go_wp2
      go_ret
      exact ⟨ret_bool HF.out.symm, HB.out⟩

set_option maxRecDepth 100000 in
set_option maxHeartbeats 4000000 in
theorem windows151_any (cv : Value) (C : Cfg) (hsm : C.small) (w : World) (h : CfgAt w cv C) : Calls Tryz.prog 94 #[cv, .int .i64 1, .int .i64 15] w fun e w' => e = .returned (.bool (C.w1.any (outsideB C true))) ∧ Below w.heap.size w w' := by
  have HC := Kp.mk h
  obtain ⟨ho, pa, pc, ca, cc, a0, c0, a1, c1, rfl, bp, bc, b0, b1, hp, hc, hw0, hw1⟩ := h
  have HW := Kp.mk hw1
  have HPT := Kp.mk hp
  have hs3 := hsm.2.2.2
  have hlen : I64 C.l1 := by first | exact ho.2.2.1 | exact ho.2.2.2.1
  clear hp hc hw0 hw1 ho
  obtain ⟨p, hpp⟩ : ∃ p : Win → Bool, p = outsideB C true := ⟨_, rfl⟩
  have HPP := Kp.mk hpp
  rw [← hpp]
  clear hpp
  go_enter Tryz.func94, Tryz.ntmps94
  go_wp2_with fail
  go_loopw [8] (fun i wr => ∃ k : Nat, k ≤ C.w1.length ∧ i = .int .i64 k ∧ Kp (Below w.heap.size w wr) ∧ Kp (wr.heap[w.heap.size]? = some (.cells #[.slice pa C.parts.length pc, .slice ca C.chans.length cc, .int .i64 C.l0, .slice a0 C.w0.length c0, .int .i64 C.l1, .slice a1 C.w1.length c1] 31 (0, 0))) ∧ Kp ((C.w1.take k).any p = false)) (fun i wr => C.w1.length - (intOf i).toNat)
  case atStart => exact ⟨0, Nat.zero_le _, rfl, ⟨below_al (Below.refl _ _) _⟩, ⟨blk_new w _⟩, ⟨rfl⟩⟩
  case round =>
    obtain ⟨k, hk, rfl, HB, HK, HN⟩ := hrel
    have q0 : wr.cell? ⟨w.heap.size, 0, none⟩ = some (.slice pa C.parts.length pc) := (cell_blk HK.out 0).trans rfl
    have q1 : wr.cell? ⟨w.heap.size, 1, none⟩ = some (.slice ca C.chans.length cc) := (cell_blk HK.out 1).trans rfl
    have q2 : wr.cell? ⟨w.heap.size, 2, none⟩ = some (.int .i64 C.l0) := (cell_blk HK.out 2).trans rfl
    have q3 : wr.cell? ⟨w.heap.size, 3, none⟩ = some (.slice a0 C.w0.length c0) := (cell_blk HK.out 3).trans rfl
    have q4 : wr.cell? ⟨w.heap.size, 4, none⟩ = some (.int .i64 C.l1) := (cell_blk HK.out 4).trans rfl
    have q5 : wr.cell? ⟨w.heap.size, 5, none⟩ = some (.slice a1 C.w1.length c1) := (cell_blk HK.out 5).trans rfl
    have l0 := blk_lt HK.out
    by_cases hlt : k < C.w1.length
    · obtain ⟨g, o, ha, hg, hcc⟩ := HW.out.at (by omega)
      obtain ⟨x, hx⟩ : ∃ x, C.w1[k] = x := ⟨_, rfl⟩
      have hcu : ∀ j, j < 3 → wr.cell? ⟨g, o + k * 3 + j, none⟩ = (winC x)[j]? := fun j hj => by
        have h1 := hcc (k * 3 + j) (by omega)
        rw [flat_at winC 3 winC_len C.w1 k j hlt hj, hx] at h1
        rw [Nat.add_assoc]
        exact (HB.out.cell (p := ⟨g, o + (k * 3 + j), none⟩) hg).trans h1
      have e0 : wr.cell? ⟨g, o + k * 3, none⟩ = some (.int .i64 x.part) := hcu 0 (by omega)
      have e1 : wr.cell? ⟨g, o + k * 3 + 1, none⟩ = some (.int .i64 x.start) := hcu 1 (by omega)
      have e2 : wr.cell? ⟨g, o + k * 3 + 2, none⟩ = some (.int .i64 x.len) := hcu 2 (by omega)
      have hgw : g < wr.heap.size := Nat.lt_of_lt_of_le hg HB.out.size
      have HA : Kp ((C.w1.take (k + 1)).any p = ((C.w1.take k).any p || p x)) := ⟨by rw [List.take_succ_eq_append_getElem hlt, List.any_append, hx]; simp⟩
      have HX : Kp (x ∈ C.w1) := ⟨hx ▸ List.getElem_mem hlt⟩
      have HY : Kp (p x = true → C.w1.any p = true) := ⟨fun h => List.any_eq_true.2 ⟨x, HX.out, h⟩⟩
      have HN1 : Kp (p x = false → (C.w1.take (k + 1)).any p = false) := ⟨fun h => by rw [HA.out, HN.out, h]; rfl⟩
      have HPX : Kp (p x = outsideB C true x) := ⟨by rw [HPP.out]⟩
      subst ha
      clear hcu hcc hx HA HN HX
      obtain ⟨pt, st, ln⟩ := x
      dsimp only at e0 e1 e2 HPX
      have hle := hlen.le
      have HP2 : Kp (p ⟨pt, st, ln⟩ = (decide (st < 0) || decide (ln < 1) || (decide (C.l1 < st) || decide (C.l1 - st < ln)))) := HPX
      clear HPX
      by_cases h1 : st < 0
      · have HT := Kp.mk (HY.out (by rw [HP2.out, decide_eq_true h1]; rfl))
        go_wp2_with fail
        go_quiet (fail)
        go_wp2
        go_ret
        exact ⟨ret_bool HT.out.symm, below_drN (below_al HB.out _)⟩
      · have h1' : decide (st < 0) = false := decide_eq_false h1
        by_cases h2 : ln < 1
        · have HT := Kp.mk (HY.out (by rw [HP2.out, h1', decide_eq_true h2]; rfl))
          go_wp2_with fail
          go_quiet (fail)
          go_wp2
          go_ret
          exact ⟨ret_bool HT.out.symm, below_drN (below_al HB.out _)⟩
        · have h2' : decide (ln < 1) = false := decide_eq_false h2
          by_cases h3 : C.l1 < st
          · have HT := Kp.mk (HY.out (by rw [HP2.out, h1', h2', decide_eq_true h3]; rfl))
            go_wp2_with fail
            go_quiet (fail)
            go_wp2
            go_ret
            exact ⟨ret_bool HT.out.symm, below_drN (below_al HB.out _)⟩
          · have h3' : decide (C.l1 < st) = false := decide_eq_false h3
            have s1 : IntKind.i64.wrap (C.l1 - st) = C.l1 - st := IntWalk.i64_in _ (by omega)
            by_cases h4 : C.l1 - st < ln
            · have HT := Kp.mk (HY.out (by rw [HP2.out, h1', h2', h3', decide_eq_true h4]; rfl))
              go_wp2_with fail
              go_quiet (fail)
              go_wp2
              go_ret
              exact ⟨ret_bool HT.out.symm, below_drN (below_al HB.out _)⟩
            · have h4' : decide (C.l1 - st < ln) = false := decide_eq_false h4
              have HN2 := Kp.mk (HN1.out (by rw [HP2.out, h1', h2', h3', h4']; rfl))
              go_wp2_with fail
              go_quiet (fail)
              go_wp2_with fail
              go_quiet (fail)
              go_wp2
              go_roundw
              case rel => exact ⟨k + 1, by omega, by go_num, ⟨(by repeat (first | exact HB.out | apply below_drN | apply below_al))⟩, ⟨blk_al HK.out _⟩, HN2⟩
              case measure => simp [intOf]; omega
    · obtain rfl : k = C.w1.length := by omega
      have h1 := HN.out
      rw [List.take_length] at h1
      have HF := Kp.mk h1
      clear h1
      go_wp2
      go_ret
      exact ⟨ret_bool HF.out.symm, HB.out⟩
end
section
open Go.RowKit
set_option linter.unusedSimpArgs false
set_option linter.unusedVariables false

set_option maxRecDepth 100000 in
set_option maxHeartbeats 4000000 in
theorem windows160_any (cv : Value) (C : Cfg) (hsm : C.small) (w : World) (h : CfgAt w cv C) : Calls Tryz.prog 94 #[cv, .int .i64 0, .int .i64 16] w fun e w' => e = .returned (.bool (crossB C.w0)) ∧ Below w.heap.size w w' := by
  have HC := Kp.mk h
  obtain ⟨ho, pa, pc, ca, cc, a0, c0, a1, c1, rfl, bp, bc, b0, b1, hp, hc, hw0, hw1⟩ := h
  have HW := Kp.mk hw0
  have HPT := Kp.mk hp
  have hs3 := hsm.2.2.1
  have hlen : I64 C.l0 := by first | exact ho.2.2.1 | exact ho.2.2.2.1
  clear hp hc hw0 hw1 ho
  go_enter Tryz.func94, Tryz.ntmps94
  go_wp2_with fail
  go_loopw [8] (fun i wr => ∃ k : Nat, k ≤ C.w0.length ∧ i = .int .i64 k ∧ Kp (Below w.heap.size w wr) ∧ Kp (wr.heap[w.heap.size]? = some (.cells #[.slice pa C.parts.length pc, .slice ca C.chans.length cc, .int .i64 C.l0, .slice a0 C.w0.length c0, .int .i64 C.l1, .slice a1 C.w1.length c1] 31 (0, 0))) ∧ Kp (crossK C.w0 k = false)) (fun i wr => C.w0.length - (intOf i).toNat)
  case atStart => exact ⟨0, Nat.zero_le _, rfl, ⟨below_al (Below.refl _ _) _⟩, ⟨blk_new w _⟩, ⟨rfl⟩⟩
  case round =>
    obtain ⟨k, hk, rfl, HB, HK, HN⟩ := hrel
    have q0 : wr.cell? ⟨w.heap.size, 0, none⟩ = some (.slice pa C.parts.length pc) := (cell_blk HK.out 0).trans rfl
    have q1 : wr.cell? ⟨w.heap.size, 1, none⟩ = some (.slice ca C.chans.length cc) := (cell_blk HK.out 1).trans rfl
    have q2 : wr.cell? ⟨w.heap.size, 2, none⟩ = some (.int .i64 C.l0) := (cell_blk HK.out 2).trans rfl
    have q3 : wr.cell? ⟨w.heap.size, 3, none⟩ = some (.slice a0 C.w0.length c0) := (cell_blk HK.out 3).trans rfl
    have q4 : wr.cell? ⟨w.heap.size, 4, none⟩ = some (.int .i64 C.l1) := (cell_blk HK.out 4).trans rfl
    have q5 : wr.cell? ⟨w.heap.size, 5, none⟩ = some (.slice a1 C.w1.length c1) := (cell_blk HK.out 5).trans rfl
    have l0 := blk_lt HK.out
    by_cases hlt : k < C.w0.length
    · obtain ⟨g, o, ha, hg, hcc⟩ := HW.out.at (by omega)
      obtain ⟨x, hx⟩ : ∃ x, C.w0[k] = x := ⟨_, rfl⟩
      have hcu : ∀ j, j < 3 → wr.cell? ⟨g, o + k * 3 + j, none⟩ = (winC x)[j]? := fun j hj => by
        have h1 := hcc (k * 3 + j) (by omega)
        rw [flat_at winC 3 winC_len C.w0 k j hlt hj, hx] at h1
        rw [Nat.add_assoc]
        exact (HB.out.cell (p := ⟨g, o + (k * 3 + j), none⟩) hg).trans h1
      have e0 : wr.cell? ⟨g, o + k * 3, none⟩ = some (.int .i64 x.part) := hcu 0 (by omega)
      have e1 : wr.cell? ⟨g, o + k * 3 + 1, none⟩ = some (.int .i64 x.start) := hcu 1 (by omega)
      have e2 : wr.cell? ⟨g, o + k * 3 + 2, none⟩ = some (.int .i64 x.len) := hcu 2 (by omega)
      have hgw : g < wr.heap.size := Nat.lt_of_lt_of_le hg HB.out.size
      have hm0 : crossK C.w0 (k + 1) = (crossK C.w0 k || (decide (0 < k) && pairB (C.w0.getD (k - 1) default) x)) := by
        rw [crossK_succ, List.getD_eq_getElem?_getD (i := k), List.getElem?_eq_getElem hlt, Option.getD_some, hx]
      by_cases hk0 : k = 0
      · have HN2 : Kp (crossK C.w0 (k + 1) = false) := ⟨by rw [hm0, HN.out, decide_eq_false (by omega)]; rfl⟩
        have z1 : decide (0 < (k : Int)) = false := decide_eq_false (by omega)
        have z2 : decide (0 < k) = false := decide_eq_false (by omega)
        have z3 : ¬ (0 : Int) < (k : Int) := by omega
        have z4 : ¬ 0 < k := by omega
        subst ha
        clear hcu hcc hx hm0 hk0
        go_wp2_with fail
        go_quiet (fail)
        go_wp2_with fail
        go_quiet (fail)
        go_wp2
        go_roundw
        case rel => exact ⟨k + 1, by omega, by go_num, ⟨(by repeat (first | exact HB.out | apply below_drN | apply below_al))⟩, ⟨blk_al HK.out _⟩, HN2⟩
        case measure => simp [intOf]; omega
      · obtain ⟨m, hm⟩ : ∃ m, k = m + 1 := ⟨k - 1, by omega⟩
        have hml : m < C.w0.length := by omega
        obtain ⟨u, hu⟩ : ∃ u, C.w0[m] = u := ⟨_, rfl⟩
        have hcv : ∀ j, j < 3 → wr.cell? ⟨g, o + m * 3 + j, none⟩ = (winC u)[j]? := fun j hj => by
          have h1 := hcc (m * 3 + j) (by omega)
          rw [flat_at winC 3 winC_len C.w0 m j hml hj, hu] at h1
          rw [Nat.add_assoc]
          exact (HB.out.cell (p := ⟨g, o + (m * 3 + j), none⟩) hg).trans h1
        have u0 : wr.cell? ⟨g, o + m * 3, none⟩ = some (.int .i64 u.part) := hcv 0 (by omega)
        have u1 : wr.cell? ⟨g, o + m * 3 + 1, none⟩ = some (.int .i64 u.start) := hcv 1 (by omega)
        have u2 : wr.cell? ⟨g, o + m * 3 + 2, none⟩ = some (.int .i64 u.len) := hcv 2 (by omega)
        have HS : Kp (crossK C.w0 (k + 1) = pairB u x) := ⟨by
          have h1 : k - 1 = m := by omega
          rw [hm0, HN.out, decide_eq_true (by omega), h1, List.getD_eq_getElem?_getD, List.getElem?_eq_getElem hml, Option.getD_some, hu]; rfl⟩
        have HY : Kp (pairB u x = true → crossB C.w0 = true) := ⟨fun h => crossK_mono (k := k + 1) (by rw [HS.out, h]) _ (by omega)⟩
        have HN1 : Kp (pairB u x = false → crossK C.w0 (k + 1) = false) := ⟨fun h => by rw [HS.out, h]⟩
        have s2 : IntKind.i64.wrap ((k : Int) - 1) = (m : Int) := by rw [show (k : Int) - 1 = (m : Int) by omega]; exact IntWalk.i64_in _ (by omega)
        have s4 : (0 : Int) ≤ (m : Int) := by omega
        have s5 : (m : Int) < (C.w0.length : Int) := by omega
        have s6 : (0 : Int) < (k : Int) := by omega
        have z1 : decide (0 < (k : Int)) = true := decide_eq_true s6
        have z4 : 0 < k := by omega
        have z2 : decide (0 < k) = true := decide_eq_true z4
        subst ha
        clear hcu hcc hx hcv hu hm hm0 hk0 HS HN
        cases h1 : wordB x.start with
        | false =>
          have HN2 := Kp.mk (HN1.out (by rw [pairB, h1]; simp))
          go_wp2_with fail
          go_quiet (fail)
          go_wp2_with fail
          go_quiet ((first | (go_at_call_of 104 (x.start); exact quiet_joined (word07_same x.start false h1 _))))
          go_wp2
          go_roundw
          case rel => exact ⟨k + 1, by omega, by go_num, ⟨(by repeat (first | exact HB.out | apply below_drN | apply below_al))⟩, ⟨blk_al HK.out _⟩, HN2⟩
          case measure => simp [intOf]; omega
        | true =>
          cases h2 : wordB u.start with
          | false =>
            have HN2 := Kp.mk (HN1.out (by rw [pairB, h2]; simp))
            go_wp2_with fail
            go_quiet (fail)
            go_wp2_with fail
            go_quiet ((first | (go_at_call_of 104 (x.start); exact quiet_joined (word07_same x.start true h1 _)) | (go_at_call_of 104 (u.start); exact quiet_joined (word07_same u.start false h2 _))))
            go_wp2
            go_roundw
            case rel => exact ⟨k + 1, by omega, by go_num, ⟨(by repeat (first | exact HB.out | apply below_drN | apply below_al))⟩, ⟨blk_al HK.out _⟩, HN2⟩
            case measure => simp [intOf]; omega
          | true =>
            cases h3 : wordB u.len with
            | false =>
              have HN2 := Kp.mk (HN1.out (by rw [pairB, h3]; simp))
              go_wp2_with fail
              go_quiet (fail)
              go_wp2_with fail
              go_quiet ((first | (go_at_call_of 104 (x.start); exact quiet_joined (word07_same x.start true h1 _)) | (go_at_call_of 104 (u.start); exact quiet_joined (word07_same u.start true h2 _)) | (go_at_call_of 104 (u.len); exact quiet_joined (word07_same u.len false h3 _))))
              go_wp2
              go_roundw
              case rel => exact ⟨k + 1, by omega, by go_num, ⟨(by repeat (first | exact HB.out | apply below_drN | apply below_al))⟩, ⟨blk_al HK.out _⟩, HN2⟩
              case measure => simp [intOf]; omega
            | true =>
              have r1 := inB_iff.1 h2
              have r2 := inB_iff.1 h3
              have t1 : IntKind.i64.wrap (u.start + u.len) = u.start + u.len := IntWalk.i64_in _ (by omega)
              clear r1 r2
              by_cases hz : x.start < u.start + u.len
              · have HT := Kp.mk (HY.out (by rw [pairB, h1, h2, h3, decide_eq_true hz]; rfl))
                go_wp2_with fail
                go_quiet (fail)
                go_wp2_with fail
                go_quiet ((first | (go_at_call_of 104 (x.start); exact quiet_joined (word07_same x.start true h1 _)) | (go_at_call_of 104 (u.start); exact quiet_joined (word07_same u.start true h2 _)) | (go_at_call_of 104 (u.len); exact quiet_joined (word07_same u.len true h3 _))))
                go_wp2
                go_ret
                exact ⟨ret_bool HT.out.symm, (by repeat (first | exact HB.out | apply below_drN | apply below_al))⟩
              · have hz' : decide (x.start < u.start + u.len) = false := decide_eq_false hz
                have HN2 := Kp.mk (HN1.out (by rw [pairB, hz']; simp))
                go_wp2_with fail
                go_quiet (fail)
                go_wp2_with fail
                go_quiet ((first | (go_at_call_of 104 (x.start); exact quiet_joined (word07_same x.start true h1 _)) | (go_at_call_of 104 (u.start); exact quiet_joined (word07_same u.start true h2 _)) | (go_at_call_of 104 (u.len); exact quiet_joined (word07_same u.len true h3 _))))
                go_wp2
                go_roundw
                case rel => exact ⟨k + 1, by omega, by go_num, ⟨(by repeat (first | exact HB.out | apply below_drN | apply below_al))⟩, ⟨blk_al HK.out _⟩, HN2⟩
                case measure => simp [intOf]; omega
    · obtain rfl : k = C.w0.length := by omega
      have HF : Kp (crossB C.w0 = false) := HN
      go_wp2
      go_ret
      exact ⟨ret_bool HF.out.symm, HB.out⟩
end
end Go.Proofs.YtmidcnfmphlneaaGreat

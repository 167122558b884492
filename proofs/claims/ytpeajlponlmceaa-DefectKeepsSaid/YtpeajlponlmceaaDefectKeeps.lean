/- The law DefectKeeps: its walk. -/
import Derived.Test.YtpeajlponlmceaaAcc
namespace Go.Proofs.Ytpeajlponlmceaa
open Go.RowKit
set_option linter.unusedSimpArgs false
set_option linter.unusedVariables false

/-- Which partitions were seen: all of the frames ahead of number k, and of the first m windows of frame k. -/
def HasOk (C : Cfg) (k m : Nat) (hs : List Bool) : Prop := ∀ p : Nat, p < 6 → ((∃ core, (cI core).toNat < k ∧ ∃ x ∈ C.win core, x.part = (p : Int)) ∨ ∃ i x, i < m ∧ (C.win (k == 1))[i]? = some x ∧ x.part = (p : Int)) → hs[p]? = some true
theorem HasOk.start (C : Cfg) (hs : List Bool) : HasOk C 0 0 hs := fun p _ h => by
  rcases h with ⟨core, h, _⟩ | ⟨i, x, h, _⟩ <;> omega
theorem HasOk.step {C : Cfg} {k m : Nat} {hs : List Bool} {x : Win} {j : Nat} (h : HasOk C k m hs) (hl : hs.length = 6) (hx : (C.win (k == 1))[m]? = some x) (hp : x.part = (j : Int)) (hj : j < 6) : HasOk C k (m + 1) (hs.set j true) := fun p hp6 hh => by
  by_cases he : j = p
  · subst he
    rw [List.getElem?_set_self (by omega)]
  · rw [List.getElem?_set_ne he]
    refine h p hp6 ?_
    rcases hh with hh | ⟨i, y, hi, hy, hyp⟩
    · exact .inl hh
    · refine .inr ⟨i, y, ?_, hy, hyp⟩
      by_cases hm : i = m
      · subst hm
        rw [hx] at hy
        cases hy
        omega
      · omega
theorem HasOk.next0 {C : Cfg} {hs : List Bool} (h : HasOk C 0 C.w0.length hs) : HasOk C 1 0 hs := fun p hp6 hh => by
  rcases hh with ⟨core, hc, x, hx, hxp⟩ | ⟨i, x, hi, _⟩
  · cases core
    · obtain ⟨i, hi, he⟩ := List.getElem_of_mem hx
      exact h p hp6 (.inr ⟨i, x, hi, by rw [← he]; exact List.getElem?_eq_getElem hi, hxp⟩)
    · simp [cI] at hc
  · omega
theorem HasOk.next1 {C : Cfg} {hs : List Bool} (h : HasOk C 1 C.w1.length hs) : HasOk C 2 0 hs := fun p hp6 hh => by
  rcases hh with ⟨core, hc, x, hx, hxp⟩ | ⟨i, x, hi, _⟩
  · cases core
    · exact h p hp6 (.inl ⟨false, by simp [cI], x, hx, hxp⟩)
    · obtain ⟨i, hi, he⟩ := List.getElem_of_mem hx
      exact h p hp6 (.inr ⟨i, x, hi, by rw [← he]; exact List.getElem?_eq_getElem hi, hxp⟩)
  · omega
theorem has_set (hs : List Bool) (j : Nat) : (hs.map Value.bool).toArray.setIfInBounds j (.bool true) = ((hs.set j true).map Value.bool).toArray := by simp [List.map_set]

set_option maxRecDepth 100000 in
set_option maxHeartbeats 1000000 in
theorem defectKeeps_no (cv : Value) (C : Cfg) (hno : C.great = true ∨ C.great = false ∧ accB C = false) (w : World) (h : CfgAt w cv C) : Calls Try.prog 7 #[cv] w fun e w' => e = .returned (.bool true) ∧ Below w.heap.size w w' := by
  have HC := Kp.mk h
  obtain ⟨ho, pa, pc, ca, cc, a0, c0, a1, c1, rfl, bp, bc, b0, b1, hp, hc, hw0, hw1⟩ := h
  go_enter Try.func7, Try.ntmps7
  go_wp2_with fail
  refine (wakes7_any _).mono ?_
  rintro e w1 ⟨rfl, hb1⟩
  have K0 : w1.heap[w.heap.size]? = some (.cells #[.slice pa C.parts.length pc, .slice ca C.chans.length cc, .int .i64 C.l0, .slice a0 C.w0.length c0, .int .i64 C.l1, .slice a1 C.w1.length c1] 29 (0, 0)) := blk_below (blk_new w _) hb1
  have HB1 : Kp (Below w.heap.size w w1) := ⟨below_call (by repeat (first | exact Below.refl _ _ | apply below_al)) hb1⟩
  have HK1 := Kp.mk K0
  have q0 : w1.cell? ⟨w.heap.size, 0, none⟩ = some (.slice pa C.parts.length pc) := (cell_blk K0 0).trans rfl
  have q1 : w1.cell? ⟨w.heap.size, 1, none⟩ = some (.slice ca C.chans.length cc) := (cell_blk K0 1).trans rfl
  have q2 : w1.cell? ⟨w.heap.size, 2, none⟩ = some (.int .i64 C.l0) := (cell_blk K0 2).trans rfl
  have q3 : w1.cell? ⟨w.heap.size, 3, none⟩ = some (.slice a0 C.w0.length c0) := (cell_blk K0 3).trans rfl
  have q4 : w1.cell? ⟨w.heap.size, 4, none⟩ = some (.int .i64 C.l1) := (cell_blk K0 4).trans rfl
  have q5 : w1.cell? ⟨w.heap.size, 5, none⟩ = some (.slice a1 C.w1.length c1) := (cell_blk K0 5).trans rfl
  have l0 := blk_lt K0
  clear hb1 K0 hp hc hw0 hw1 ho
  go_wp2_with fail
  refine (great_any _ C _ (HC.out.below HB1.out)).mono ?_
  rcases hno with hg | ⟨hg, hac⟩
  · rw [hg]
    rintro e w2 ⟨rfl, hb2⟩
    go_wp2
    go_ret
    exact ⟨rfl, below_call HB1.out hb2⟩
  · rw [hg]
    rintro e w2 ⟨rfl, hb2⟩
    have HB2 := Kp.mk (below_call HB1.out hb2)
    have HK2 := Kp.mk (blk_below HK1.out hb2)
    have r0 : w2.cell? ⟨w.heap.size, 0, none⟩ = some (.slice pa C.parts.length pc) := (cell_blk HK2.out 0).trans rfl
    have r1 : w2.cell? ⟨w.heap.size, 1, none⟩ = some (.slice ca C.chans.length cc) := (cell_blk HK2.out 1).trans rfl
    have r2 : w2.cell? ⟨w.heap.size, 2, none⟩ = some (.int .i64 C.l0) := (cell_blk HK2.out 2).trans rfl
    have r3 : w2.cell? ⟨w.heap.size, 3, none⟩ = some (.slice a0 C.w0.length c0) := (cell_blk HK2.out 3).trans rfl
    have r4 : w2.cell? ⟨w.heap.size, 4, none⟩ = some (.int .i64 C.l1) := (cell_blk HK2.out 4).trans rfl
    have r5 : w2.cell? ⟨w.heap.size, 5, none⟩ = some (.slice a1 C.w1.length c1) := (cell_blk HK2.out 5).trans rfl
    have l2 := blk_lt HK2.out
    clear hb2 q0 q1 q2 q3 q4 q5 l0
    go_wp2_with fail
    refine (accepts_any _ C (small_of_great hg) _ (HC.out.below HB2.out)).mono ?_
    rw [accB_first, hac]
    rintro e w3 ⟨rfl, hb3⟩
    go_wp2
    go_ret
    exact ⟨rfl, below_call HB2.out hb3⟩

set_option maxRecDepth 100000 in
set_option maxHeartbeats 8000000 in
theorem defectKeeps_core (cv : Value) (C : Cfg) (hg : C.great = false) (hac : accB C = true) (w : World) (h : CfgAt w cv C) : Calls Try.prog 7 #[cv] w fun e w' => e = .returned (.bool true) ∧ Below w.heap.size w w' := by
  have HC := Kp.mk h
  have hsm := small_of_great hg
  have HACC := Kp.mk (acc_of hac)
  have hs1 := hsm.1
  have hs2 := hsm.2.1
  have hs3 := hsm.2.2.1
  have hs4 := hsm.2.2.2
  obtain ⟨ho, pa, pc, ca, cc, a0, c0, a1, c1, rfl, bp, bc, b0, b1, hp, hc, hw0, hw1⟩ := h
  have HP := Kp.mk hp
  have HCH := Kp.mk hc
  have HW0 := Kp.mk hw0
  have HW1 := Kp.mk hw1
  go_enter Try.func7, Try.ntmps7
  go_wp2_with fail
  refine (wakes7_any _).mono ?_
  rintro e w1 ⟨rfl, hb1⟩
  have K0 : w1.heap[w.heap.size]? = some (.cells #[.slice pa C.parts.length pc, .slice ca C.chans.length cc, .int .i64 C.l0, .slice a0 C.w0.length c0, .int .i64 C.l1, .slice a1 C.w1.length c1] 29 (0, 0)) := blk_below (blk_new w _) hb1
  have HB1 : Kp (Below w.heap.size w w1) := ⟨below_call (by repeat (first | exact Below.refl _ _ | apply below_al)) hb1⟩
  have HK1 := Kp.mk K0
  have q0 : w1.cell? ⟨w.heap.size, 0, none⟩ = some (.slice pa C.parts.length pc) := (cell_blk K0 0).trans rfl
  have q1 : w1.cell? ⟨w.heap.size, 1, none⟩ = some (.slice ca C.chans.length cc) := (cell_blk K0 1).trans rfl
  have q2 : w1.cell? ⟨w.heap.size, 2, none⟩ = some (.int .i64 C.l0) := (cell_blk K0 2).trans rfl
  have q3 : w1.cell? ⟨w.heap.size, 3, none⟩ = some (.slice a0 C.w0.length c0) := (cell_blk K0 3).trans rfl
  have q4 : w1.cell? ⟨w.heap.size, 4, none⟩ = some (.int .i64 C.l1) := (cell_blk K0 4).trans rfl
  have q5 : w1.cell? ⟨w.heap.size, 5, none⟩ = some (.slice a1 C.w1.length c1) := (cell_blk K0 5).trans rfl
  have l0 := blk_lt K0
  clear hb1 K0 hp hc hw0 hw1 ho
  go_wp2_with fail
  refine (great_any _ C _ (HC.out.below HB1.out)).mono ?_
  rw [hg]
  rintro e w2 ⟨rfl, hb2⟩
  have HB2 := Kp.mk (below_call HB1.out hb2)
  have HK2 := Kp.mk (blk_below HK1.out hb2)
  have r0 : w2.cell? ⟨w.heap.size, 0, none⟩ = some (.slice pa C.parts.length pc) := (cell_blk HK2.out 0).trans rfl
  have r1 : w2.cell? ⟨w.heap.size, 1, none⟩ = some (.slice ca C.chans.length cc) := (cell_blk HK2.out 1).trans rfl
  have r2 : w2.cell? ⟨w.heap.size, 2, none⟩ = some (.int .i64 C.l0) := (cell_blk HK2.out 2).trans rfl
  have r3 : w2.cell? ⟨w.heap.size, 3, none⟩ = some (.slice a0 C.w0.length c0) := (cell_blk HK2.out 3).trans rfl
  have r4 : w2.cell? ⟨w.heap.size, 4, none⟩ = some (.int .i64 C.l1) := (cell_blk HK2.out 4).trans rfl
  have r5 : w2.cell? ⟨w.heap.size, 5, none⟩ = some (.slice a1 C.w1.length c1) := (cell_blk HK2.out 5).trans rfl
  have l2 := blk_lt HK2.out
  clear hb2 q0 q1 q2 q3 q4 q5 l0
  go_wp2_with fail
  refine (accepts_any _ C hsm _ (HC.out.below HB2.out)).mono ?_
  rw [accB_first, hac]
  rintro e w3 ⟨rfl, hb3⟩
  have HB3 := Kp.mk (below_call HB2.out hb3)
  have HK3 := Kp.mk (blk_below HK2.out hb3)
  have s0 : w3.cell? ⟨w.heap.size, 0, none⟩ = some (.slice pa C.parts.length pc) := (cell_blk HK3.out 0).trans rfl
  have s1 : w3.cell? ⟨w.heap.size, 1, none⟩ = some (.slice ca C.chans.length cc) := (cell_blk HK3.out 1).trans rfl
  have s2 : w3.cell? ⟨w.heap.size, 2, none⟩ = some (.int .i64 C.l0) := (cell_blk HK3.out 2).trans rfl
  have s3 : w3.cell? ⟨w.heap.size, 3, none⟩ = some (.slice a0 C.w0.length c0) := (cell_blk HK3.out 3).trans rfl
  have s4 : w3.cell? ⟨w.heap.size, 4, none⟩ = some (.int .i64 C.l1) := (cell_blk HK3.out 4).trans rfl
  have s5 : w3.cell? ⟨w.heap.size, 5, none⟩ = some (.slice a1 C.w1.length c1) := (cell_blk HK3.out 5).trans rfl
  have l3 := blk_lt HK3.out
  have n1 : ¬ ((C.parts.length : Int) < 1) := by have := HACC.out.np; omega
  have n2 : ¬ ((6 : Int) < (C.parts.length : Int)) := by have := HACC.out.np; omega
  have n3 : ¬ ((8 : Int) < (C.chans.length : Int)) := by have := HACC.out.nc; omega
  have n1' : decide ((C.parts.length : Int) < 1) = false := decide_eq_false n1
  have n2' : decide ((6 : Int) < (C.parts.length : Int)) = false := decide_eq_false n2
  have n3' : decide ((8 : Int) < (C.chans.length : Int)) = false := decide_eq_false n3
  clear hb3 r0 r1 r2 r3 r4 r5 l2
  go_wp2_with fail
  clear n1 n2 n3 n1' n2' n3' s0 s1 s2 s3 s4 s5 l3
  go_loopw [39] (fun i wr => ∃ k : Nat, k ≤ C.chans.length ∧ i = .int .i64 k ∧ Kp (Below w.heap.size w wr) ∧ Kp (wr.heap[w.heap.size]? = some (.cells #[.slice pa C.parts.length pc, .slice ca C.chans.length cc, .int .i64 C.l0, .slice a0 C.w0.length c0, .int .i64 C.l1, .slice a1 C.w1.length c1] 29 (0, 0)))) (fun i wr => C.chans.length - (intOf i).toNat)
  case atStart => exact ⟨0, Nat.zero_le _, rfl, HB3, HK3⟩
  case round =>
    obtain ⟨k, hk, rfl, HB, HK⟩ := hrel
    have q0 : wr.cell? ⟨w.heap.size, 0, none⟩ = some (.slice pa C.parts.length pc) := (cell_blk HK.out 0).trans rfl
    have q1 : wr.cell? ⟨w.heap.size, 1, none⟩ = some (.slice ca C.chans.length cc) := (cell_blk HK.out 1).trans rfl
    have q2 : wr.cell? ⟨w.heap.size, 2, none⟩ = some (.int .i64 C.l0) := (cell_blk HK.out 2).trans rfl
    have q3 : wr.cell? ⟨w.heap.size, 3, none⟩ = some (.slice a0 C.w0.length c0) := (cell_blk HK.out 3).trans rfl
    have q4 : wr.cell? ⟨w.heap.size, 4, none⟩ = some (.int .i64 C.l1) := (cell_blk HK.out 4).trans rfl
    have q5 : wr.cell? ⟨w.heap.size, 5, none⟩ = some (.slice a1 C.w1.length c1) := (cell_blk HK.out 5).trans rfl
    have l0 := blk_lt HK.out
    by_cases hlt : k < C.chans.length
    · obtain ⟨g, o, ha, hg, hcc⟩ := HCH.out.at (by omega)
      obtain ⟨x, hx⟩ : ∃ x, C.chans[k] = x := ⟨_, rfl⟩
      have hcu : ∀ j, j < 7 → wr.cell? ⟨g, o + k * 7 + j, none⟩ = (chanC x)[j]? := fun j hj => by
        have h1 := hcc (k * 7 + j) (by omega)
        rw [flat_at chanC 7 chanC_len C.chans k j hlt hj, hx] at h1
        rw [Nat.add_assoc]
        exact (HB.out.cell (p := ⟨g, o + (k * 7 + j), none⟩) hg).trans h1
      have e0 : wr.cell? ⟨g, o + k * 7, none⟩ = some (.int .i64 x.kind) := hcu 0 (by omega)
      have e1 : wr.cell? ⟨g, o + k * 7 + 1, none⟩ = some (.int .i64 x.frm) := hcu 1 (by omega)
      have e2 : wr.cell? ⟨g, o + k * 7 + 2, none⟩ = some (.int .i64 x.to) := hcu 2 (by omega)
      have e3 : wr.cell? ⟨g, o + k * 7 + 3, none⟩ = some (.int .i64 x.words) := hcu 3 (by omega)
      have e4 : wr.cell? ⟨g, o + k * 7 + 4, none⟩ = some (.int .i64 x.depth) := hcu 4 (by omega)
      have e5 : wr.cell? ⟨g, o + k * 7 + 5, none⟩ = some (.int .i64 x.period) := hcu 5 (by omega)
      have e6 : wr.cell? ⟨g, o + k * 7 + 6, none⟩ = some (.int .u32 x.boot) := hcu 6 (by omega)
      obtain ⟨_, c2, c3, c4, _⟩ := HACC.out.chans x (hx ▸ List.getElem_mem hlt)
      have t1 : (x.frm == x.to) = false := by simpa using c4
      have t2 : decide (x.frm < 0) = false := decide_eq_false (by omega)
      have t3 : decide (x.to < 0) = false := decide_eq_false (by omega)
      have t4 : decide ((C.parts.length : Int) ≤ x.frm) = false := decide_eq_false (by omega)
      have t5 : decide ((C.parts.length : Int) ≤ x.to) = false := decide_eq_false (by omega)
      subst ha
      clear hcu hcc hx c2 c3
      go_wp2
      go_roundw
      case rel => exact ⟨k + 1, by omega, by go_num, ⟨below_al HB.out _⟩, ⟨blk_al HK.out _⟩⟩
      case measure => simp [intOf]; omega
    · obtain rfl : k = C.chans.length := by omega
      obtain ⟨wo, rfl⟩ : ∃ wo : World, wo = wr := ⟨_, rfl⟩
      have HBO := HB
      have hwo := HB.out.size
      have hwo1 : w.heap.size < wo.heap.size := blk_lt HK.out
      go_wp2_with fail
      clear q0 q1 q2 q3 q4 q5 l0
      go_loopw [75] (fun i wr => ∃ (k : Nat) (hs : List Bool), k ≤ 2 ∧ i = .int .i64 k ∧ Kp (Below w.heap.size w wr) ∧ Kp (wr.heap[w.heap.size]? = some (.cells #[.slice pa C.parts.length pc, .slice ca C.chans.length cc, .int .i64 C.l0, .slice a0 C.w0.length c0, .int .i64 C.l1, .slice a1 C.w1.length c1] 29 (0, 0))) ∧ Kp (wr.heap[wo.heap.size]? = some (.cells (hs.map Value.bool).toArray 44 (0, 0))) ∧ Kp (hs.length = 6) ∧ Kp (HasOk C k 0 hs)) (fun i wr => 2 - (intOf i).toNat)
      case atStart => exact ⟨0, List.replicate 6 false, by omega, rfl, ⟨below_al HB.out _⟩, ⟨blk_al HK.out _⟩, ⟨blk_new wo _⟩, ⟨rfl⟩, ⟨HasOk.start _ _⟩⟩
      case round =>
        obtain ⟨k, hs, hk2, rfl, HB, HK, HH, HHL, HHO⟩ := hrel
        have q0 : wr.cell? ⟨w.heap.size, 0, none⟩ = some (.slice pa C.parts.length pc) := (cell_blk HK.out 0).trans rfl
        have q1 : wr.cell? ⟨w.heap.size, 1, none⟩ = some (.slice ca C.chans.length cc) := (cell_blk HK.out 1).trans rfl
        have q2 : wr.cell? ⟨w.heap.size, 2, none⟩ = some (.int .i64 C.l0) := (cell_blk HK.out 2).trans rfl
        have q3 : wr.cell? ⟨w.heap.size, 3, none⟩ = some (.slice a0 C.w0.length c0) := (cell_blk HK.out 3).trans rfl
        have q4 : wr.cell? ⟨w.heap.size, 4, none⟩ = some (.int .i64 C.l1) := (cell_blk HK.out 4).trans rfl
        have q5 : wr.cell? ⟨w.heap.size, 5, none⟩ = some (.slice a1 C.w1.length c1) := (cell_blk HK.out 5).trans rfl
        have l0 := blk_lt HK.out
        by_cases hk0 : k = 0
        · subst hk0
          go_wp2_with fail
          go_loopw [7, 84] (fun ve i wr => ∃ (m : Nat) (e : Int) (hs : List Bool), m ≤ C.w0.length ∧ i = .int .i64 m ∧ ve = .int .i64 e ∧ Kp (Below w.heap.size w wr) ∧ Kp (wr.heap[w.heap.size]? = some (.cells #[.slice pa C.parts.length pc, .slice ca C.chans.length cc, .int .i64 C.l0, .slice a0 C.w0.length c0, .int .i64 C.l1, .slice a1 C.w1.length c1] 29 (0, 0))) ∧ Kp (wr.heap[wo.heap.size]? = some (.cells (hs.map Value.bool).toArray 44 (0, 0))) ∧ Kp (hs.length = 6) ∧ Kp (HasOk C 0 m hs) ∧ Kp (∀ x, C.w0[m]? = some x → e ≤ x.start)) (fun ve i wr => C.w0.length - (intOf i).toNat)
          case atStart => exact ⟨0, 0, hs, Nat.zero_le _, rfl, rfl, HB, HK, HH, HHL, HHO, ⟨fun x hx => ((HACC.out.wins false x (List.mem_of_getElem? hx)).2.2.1)⟩⟩
          case round =>
            obtain ⟨m, e, hs, hm, rfl, rfl, HB, HK, HH, HHL, HHO, HE⟩ := hrel
            have q0 : wr.cell? ⟨w.heap.size, 0, none⟩ = some (.slice pa C.parts.length pc) := (cell_blk HK.out 0).trans rfl
            have q1 : wr.cell? ⟨w.heap.size, 1, none⟩ = some (.slice ca C.chans.length cc) := (cell_blk HK.out 1).trans rfl
            have q2 : wr.cell? ⟨w.heap.size, 2, none⟩ = some (.int .i64 C.l0) := (cell_blk HK.out 2).trans rfl
            have q3 : wr.cell? ⟨w.heap.size, 3, none⟩ = some (.slice a0 C.w0.length c0) := (cell_blk HK.out 3).trans rfl
            have q4 : wr.cell? ⟨w.heap.size, 4, none⟩ = some (.int .i64 C.l1) := (cell_blk HK.out 4).trans rfl
            have q5 : wr.cell? ⟨w.heap.size, 5, none⟩ = some (.slice a1 C.w1.length c1) := (cell_blk HK.out 5).trans rfl
            have l0 := blk_lt HK.out
            have l1 := blk_lt HH.out
            by_cases hlt : m < C.w0.length
            · obtain ⟨g, o, ha, hg, hcc⟩ := HW0.out.at (by omega)
              obtain ⟨x, hx⟩ : ∃ x, C.w0[m] = x := ⟨_, rfl⟩
              have hx? : C.w0[m]? = some x := by rw [List.getElem?_eq_getElem hlt, hx]
              have hcu : ∀ j, j < 3 → wr.cell? ⟨g, o + m * 3 + j, none⟩ = (winC x)[j]? := fun j hj => by
                have h1 := hcc (m * 3 + j) (by omega)
                rw [flat_at winC 3 winC_len C.w0 m j hlt hj, hx] at h1
                rw [Nat.add_assoc]
                exact (HB.out.cell (p := ⟨g, o + (m * 3 + j), none⟩) hg).trans h1
              have e0 : wr.cell? ⟨g, o + m * 3, none⟩ = some (.int .i64 x.part) := hcu 0 (by omega)
              have e1 : wr.cell? ⟨g, o + m * 3 + 1, none⟩ = some (.int .i64 x.start) := hcu 1 (by omega)
              have e2 : wr.cell? ⟨g, o + m * 3 + 2, none⟩ = some (.int .i64 x.len) := hcu 2 (by omega)
              obtain ⟨⟨k1, k2⟩, k3, k4, k5, k6⟩ := HACC.out.wins false x (List.mem_of_getElem? hx?)
              have k6' : x.start + x.len ≤ C.l0 := k6
              have hll : C.l0 ≤ 64 := (HACC.out.len false).2
              have hst := HE.out x hx?
              have HNX : Kp (∀ y, C.w0[m + 1]? = some y → x.start + x.len ≤ y.start) := ⟨fun y hy => HACC.out.next false m x y hx? hy⟩
              obtain ⟨pt, st, ln⟩ := x
              dsimp only at e0 e1 e2 k1 k2 k3 k4 k5 k6' hst HNX
              obtain ⟨j, rfl⟩ := Int.eq_ofNat_of_zero_le k1
              have hj : j < C.parts.length := by omega
              have hj6 : j < 6 := by have := HACC.out.np.2; omega
              obtain ⟨y, hy⟩ : ∃ y, C.parts[j] = y := ⟨_, rfl⟩
              have hy1 : y.1 = 0 := by
                rw [Int.toNat_natCast, List.getD_eq_getElem?_getD, List.getElem?_eq_getElem hj, Option.getD_some, hy] at k3
                exact k3
              obtain ⟨g2, o2, hpa, hg2, hcc2⟩ := HP.out.at (by omega)
              have p0 : wr.cell? ⟨g2, o2 + j * 2, none⟩ = some (.int .i64 0) := by
                have h1 := hcc2 (j * 2 + 0) (by omega)
                rw [flat_at partC 2 partC_len C.parts j 0 hj (by omega), hy] at h1
                have h2 : w.cell? ⟨g2, o2 + j * 2, none⟩ = some (.int .i64 y.1) := h1
                rw [hy1] at h2
                exact (HB.out.cell (p := ⟨g2, o2 + j * 2, none⟩) hg2).trans h2
              have hne : w.heap.size ≠ wo.heap.size := by omega
              have hgw2 : g2 < wr.heap.size := Nat.lt_of_lt_of_le hg2 HB.out.size
              have HHN : Kp (HasOk C 0 (m + 1) (hs.set j true)) := ⟨HHO.out.step HHL.out hx? rfl hj6⟩
              have cj : ∃ v, wr.cell? ⟨wo.heap.size, j, none⟩ = some v := by
                rw [cell_blk HH.out j]
                exact ⟨_, Array.getElem?_eq_getElem (by simp [HHL.out]; exact hj6)⟩
              obtain ⟨vj, cj⟩ := cj
              have fj : wr.frozen? ⟨wo.heap.size, j, none⟩ = false := frozen_blk HH.out j
              have t1 : decide (st < e) = false := decide_eq_false (by omega)
              have t2 : decide (ln < 1) = false := decide_eq_false (by omega)
              have t3 : IntKind.i64.wrap (st + ln) = st + ln := IntWalk.i64_in _ (by omega)
              have t4 : decide (C.l0 < st + ln) = false := decide_eq_false (by omega)
              have t5 : decide ((j : Int) < 0) = false := decide_eq_false (by omega)
              have t6 : decide ((C.parts.length : Int) ≤ (j : Int)) = false := decide_eq_false (by omega)
              have t6n : decide (C.parts.length ≤ j) = false := decide_eq_false (by omega)
              have t7 : (0 : Int) ≤ (j : Int) := by omega
              have t8 : (j : Int) < (C.parts.length : Int) := by omega
              have t9 : (j : Int) < 6 := by omega
              subst ha
              subst hpa
              clear hcu hcc hcc2 hx hx? hy hy1 k1 k2 k3 k4 k5 k6 k6' hll hst hj HHO
              go_wp2_with fail
              go_quiet (fail)
              go_wp2
              go_roundw
              case rel => exact ⟨m + 1, st + ln, hs.set j true, by omega, by go_num, by first | rfl | trivial, ⟨by repeat (first | exact HB.out | apply below_drN | apply below_al | (refine Below.setCell (p := ⟨wo.heap.size, j, none⟩) ?_ (by show w.heap.size ≤ wo.heap.size; exact hwo) _))⟩, ⟨by first | exact blk_set_ne (p := ⟨wo.heap.size, j, none⟩) (blk_drN (blk_al HK.out _)) hne _ | exact blk_set_ne (p := ⟨wo.heap.size, j, none⟩) (blk_al HK.out _) hne _⟩, ⟨by rw [← has_set]; first | exact blk_set (blk_drN (blk_al HH.out _)) j _ | exact blk_set (blk_al HH.out _) j _⟩, ⟨by rw [List.length_set]; exact HHL.out⟩, HHN, HNX⟩
              case measure => simp [intOf]; omega
            · obtain rfl : m = C.w0.length := by omega
              have HHN : Kp (HasOk C 1 0 hs) := ⟨HHO.out.next0⟩
              go_wp2
              go_roundw
              case rel => exact ⟨1, hs, by omega, by first | rfl | go_num, HB, HK, HH, HHL, HHN⟩
              case measure => simp [intOf]
        · by_cases hk1 : k = 1
          · subst hk1
            go_wp2_with fail
            go_loopw [7, 84] (fun ve i wr => ∃ (m : Nat) (e : Int) (hs : List Bool), m ≤ C.w1.length ∧ i = .int .i64 m ∧ ve = .int .i64 e ∧ Kp (Below w.heap.size w wr) ∧ Kp (wr.heap[w.heap.size]? = some (.cells #[.slice pa C.parts.length pc, .slice ca C.chans.length cc, .int .i64 C.l0, .slice a0 C.w0.length c0, .int .i64 C.l1, .slice a1 C.w1.length c1] 29 (0, 0))) ∧ Kp (wr.heap[wo.heap.size]? = some (.cells (hs.map Value.bool).toArray 44 (0, 0))) ∧ Kp (hs.length = 6) ∧ Kp (HasOk C 1 m hs) ∧ Kp (∀ x, C.w1[m]? = some x → e ≤ x.start)) (fun ve i wr => C.w1.length - (intOf i).toNat)
            case atStart => exact ⟨0, 0, hs, Nat.zero_le _, rfl, rfl, HB, HK, HH, HHL, HHO, ⟨fun x hx => ((HACC.out.wins true x (List.mem_of_getElem? hx)).2.2.1)⟩⟩
            case round =>
              obtain ⟨m, e, hs, hm, rfl, rfl, HB, HK, HH, HHL, HHO, HE⟩ := hrel
              have q0 : wr.cell? ⟨w.heap.size, 0, none⟩ = some (.slice pa C.parts.length pc) := (cell_blk HK.out 0).trans rfl
              have q1 : wr.cell? ⟨w.heap.size, 1, none⟩ = some (.slice ca C.chans.length cc) := (cell_blk HK.out 1).trans rfl
              have q2 : wr.cell? ⟨w.heap.size, 2, none⟩ = some (.int .i64 C.l0) := (cell_blk HK.out 2).trans rfl
              have q3 : wr.cell? ⟨w.heap.size, 3, none⟩ = some (.slice a0 C.w0.length c0) := (cell_blk HK.out 3).trans rfl
              have q4 : wr.cell? ⟨w.heap.size, 4, none⟩ = some (.int .i64 C.l1) := (cell_blk HK.out 4).trans rfl
              have q5 : wr.cell? ⟨w.heap.size, 5, none⟩ = some (.slice a1 C.w1.length c1) := (cell_blk HK.out 5).trans rfl
              have l0 := blk_lt HK.out
              have l1 := blk_lt HH.out
              by_cases hlt : m < C.w1.length
              · obtain ⟨g, o, ha, hg, hcc⟩ := HW1.out.at (by omega)
                obtain ⟨x, hx⟩ : ∃ x, C.w1[m] = x := ⟨_, rfl⟩
                have hx? : C.w1[m]? = some x := by rw [List.getElem?_eq_getElem hlt, hx]
                have hcu : ∀ j, j < 3 → wr.cell? ⟨g, o + m * 3 + j, none⟩ = (winC x)[j]? := fun j hj => by
                  have h1 := hcc (m * 3 + j) (by omega)
                  rw [flat_at winC 3 winC_len C.w1 m j hlt hj, hx] at h1
                  rw [Nat.add_assoc]
                  exact (HB.out.cell (p := ⟨g, o + (m * 3 + j), none⟩) hg).trans h1
                have e0 : wr.cell? ⟨g, o + m * 3, none⟩ = some (.int .i64 x.part) := hcu 0 (by omega)
                have e1 : wr.cell? ⟨g, o + m * 3 + 1, none⟩ = some (.int .i64 x.start) := hcu 1 (by omega)
                have e2 : wr.cell? ⟨g, o + m * 3 + 2, none⟩ = some (.int .i64 x.len) := hcu 2 (by omega)
                obtain ⟨⟨k1, k2⟩, k3, k4, k5, k6⟩ := HACC.out.wins true x (List.mem_of_getElem? hx?)
                have k6' : x.start + x.len ≤ C.l1 := k6
                have hll : C.l1 ≤ 64 := (HACC.out.len true).2
                have hst := HE.out x hx?
                have HNX : Kp (∀ y, C.w1[m + 1]? = some y → x.start + x.len ≤ y.start) := ⟨fun y hy => HACC.out.next true m x y hx? hy⟩
                obtain ⟨pt, st, ln⟩ := x
                dsimp only at e0 e1 e2 k1 k2 k3 k4 k5 k6' hst HNX
                obtain ⟨j, rfl⟩ := Int.eq_ofNat_of_zero_le k1
                have hj : j < C.parts.length := by omega
                have hj6 : j < 6 := by have := HACC.out.np.2; omega
                obtain ⟨y, hy⟩ : ∃ y, C.parts[j] = y := ⟨_, rfl⟩
                have hy1 : y.1 = 1 := by
                  rw [Int.toNat_natCast, List.getD_eq_getElem?_getD, List.getElem?_eq_getElem hj, Option.getD_some, hy] at k3
                  exact k3
                obtain ⟨g2, o2, hpa, hg2, hcc2⟩ := HP.out.at (by omega)
                have p0 : wr.cell? ⟨g2, o2 + j * 2, none⟩ = some (.int .i64 1) := by
                  have h1 := hcc2 (j * 2 + 0) (by omega)
                  rw [flat_at partC 2 partC_len C.parts j 0 hj (by omega), hy] at h1
                  have h2 : w.cell? ⟨g2, o2 + j * 2, none⟩ = some (.int .i64 y.1) := h1
                  rw [hy1] at h2
                  exact (HB.out.cell (p := ⟨g2, o2 + j * 2, none⟩) hg2).trans h2
                have hne : w.heap.size ≠ wo.heap.size := by omega
                have hgw2 : g2 < wr.heap.size := Nat.lt_of_lt_of_le hg2 HB.out.size
                have HHN : Kp (HasOk C 1 (m + 1) (hs.set j true)) := ⟨HHO.out.step HHL.out hx? rfl hj6⟩
                have cj : ∃ v, wr.cell? ⟨wo.heap.size, j, none⟩ = some v := by
                  rw [cell_blk HH.out j]
                  exact ⟨_, Array.getElem?_eq_getElem (by simp [HHL.out]; exact hj6)⟩
                obtain ⟨vj, cj⟩ := cj
                have fj : wr.frozen? ⟨wo.heap.size, j, none⟩ = false := frozen_blk HH.out j
                have t1 : decide (st < e) = false := decide_eq_false (by omega)
                have t2 : decide (ln < 1) = false := decide_eq_false (by omega)
                have t3 : IntKind.i64.wrap (st + ln) = st + ln := IntWalk.i64_in _ (by omega)
                have t4 : decide (C.l1 < st + ln) = false := decide_eq_false (by omega)
                have t5 : decide ((j : Int) < 0) = false := decide_eq_false (by omega)
                have t6 : decide ((C.parts.length : Int) ≤ (j : Int)) = false := decide_eq_false (by omega)
                have t6n : decide (C.parts.length ≤ j) = false := decide_eq_false (by omega)
                have t7 : (0 : Int) ≤ (j : Int) := by omega
                have t8 : (j : Int) < (C.parts.length : Int) := by omega
                have t9 : (j : Int) < 6 := by omega
                subst ha
                subst hpa
                clear hcu hcc hcc2 hx hx? hy hy1 k1 k2 k3 k4 k5 k6 k6' hll hst hj HHO
                go_wp2_with fail
                go_quiet (fail)
                go_wp2
                go_roundw
                case rel => exact ⟨m + 1, st + ln, hs.set j true, by omega, by go_num, by first | rfl | trivial, ⟨by repeat (first | exact HB.out | apply below_drN | apply below_al | (refine Below.setCell (p := ⟨wo.heap.size, j, none⟩) ?_ (by show w.heap.size ≤ wo.heap.size; exact hwo) _))⟩, ⟨by first | exact blk_set_ne (p := ⟨wo.heap.size, j, none⟩) (blk_drN (blk_al HK.out _)) hne _ | exact blk_set_ne (p := ⟨wo.heap.size, j, none⟩) (blk_al HK.out _) hne _⟩, ⟨by rw [← has_set]; first | exact blk_set (blk_drN (blk_al HH.out _)) j _ | exact blk_set (blk_al HH.out _) j _⟩, ⟨by rw [List.length_set]; exact HHL.out⟩, HHN, HNX⟩
                case measure => simp [intOf]; omega
              · obtain rfl : m = C.w1.length := by omega
                have HHN : Kp (HasOk C 2 0 hs) := ⟨HHO.out.next1⟩
                go_wp2
                go_roundw
                case rel => exact ⟨2, hs, by omega, by first | rfl | go_num, HB, HK, HH, HHL, HHN⟩
                case measure => simp [intOf]
          · obtain rfl : k = 2 := by omega
            have HALL : Kp (∀ p, p < C.parts.length → hs[p]? = some true) := ⟨fun p hp => by
              obtain ⟨core, _, x, hx, hxp⟩ := HACC.out.idle p hp
              exact HHO.out p (by have := HACC.out.np.2; omega) (.inl ⟨core, by cases core <;> simp [cI], x, hx, hxp⟩)⟩
            have h6 : C.parts.length ≤ 6 := HACC.out.np.2
            go_wp2_with fail
            go_loopw [147] (fun i w9 => ∃ p : Nat, p ≤ C.parts.length ∧ i = .int .i64 p ∧ w9 = wr) (fun i w9 => C.parts.length - (intOf i).toNat)
            case atStart => exact ⟨0, Nat.zero_le _, rfl, rfl⟩
            case round =>
              obtain ⟨p, hp, rfl, rfl⟩ := hrel
              by_cases hlt : p < C.parts.length
              · have cp : wr.cell? ⟨wo.heap.size, p, none⟩ = some (.bool true) := by
                  rw [cell_blk HH.out p, List.getElem?_toArray, List.getElem?_map, HALL.out p hlt]; rfl
                have p6 : (p : Int) < 6 := by omega
                go_wp2
                go_roundw
                case rel => exact ⟨p + 1, by omega, by go_num, by first | rfl | trivial⟩
                case measure => simp [intOf]; omega
              · obtain rfl : p = C.parts.length := by omega
                go_wp2
                go_ret
                exact ⟨rfl, HB.out⟩
theorem defectKeeps_any (v0 : Value) (w : World) (h0 : RdV w cfgSh v0) : Calls Try.prog 7 #[v0] w fun e w' => e = .returned (.bool true) ∧ Below w.heap.size w w' := by
  obtain ⟨C, hC⟩ := cfgAt_of h0
  cases hg : C.great with
  | true => exact defectKeeps_no v0 C (.inl hg) w hC
  | false =>
    cases ha : accB C with
    | false => exact defectKeeps_no v0 C (.inr ⟨hg, ha⟩) w hC
    | true => exact defectKeeps_core v0 C hg ha w hC
end Go.Proofs.Ytpeajlponlmceaa

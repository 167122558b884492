/- Contracts of the reference of defects: has a partition a window. -/
import Derived.Test.YtmidcnfmphlneaaRef7a
namespace Go.Proofs.Ytmidcnfmphlneaa
open Go.RowKit
set_option linter.unusedSimpArgs false
set_option linter.unusedVariables false

set_option maxRecDepth 100000 in
set_option maxHeartbeats 4000000 in
theorem window07_0 (cv : Value) (C : Cfg) (hsm : C.small) (i : Nat) (hi : i < C.parts.length) (hcore : C.parts[i].1 = 0) (w : World) (h : CfgAt w cv C) : Calls Try.prog 42 #[cv, .int .i64 i] w fun e w' => e = .returned (.bool (C.w0.any fun y => y.part == (i : Int))) ∧ Below w.heap.size w w' := by
  obtain ⟨ho, pa, pc, ca, cc, a0, c0, a1, c1, rfl, bp, bc, b0, b1, hp, hc, hw0, hw1⟩ := h
  have HP := Kp.mk hp
  have HW := Kp.mk hw0
  have hs3 := hsm.2.2.1
  clear hp hc hw0 hw1 ho
  obtain ⟨g2, o2, hpa, hg2, hcc2⟩ := HP.out.at (by omega)
  have hcj := hcc2 (i * 2 + 0) (by omega)
  rw [flat_at partC 2 partC_len C.parts i 0 hi (by omega)] at hcj
  have hci : w.cell? ⟨g2, o2 + i * 2, none⟩ = some (.int .i64 0) := by
    have h1 : w.cell? ⟨g2, o2 + i * 2, none⟩ = some (.int .i64 C.parts[i].1) := hcj
    rw [h1, hcore]
  have i0 : (0 : Int) ≤ (i : Int) := by omega
  have i1 : (i : Int) < (C.parts.length : Int) := by omega
  obtain ⟨p, hpp⟩ : ∃ p : Win → Bool, p = fun y => y.part == (i : Int) := ⟨_, rfl⟩
  have HPP := Kp.mk hpp
  rw [← hpp]
  subst hpa
  clear hcj hcc2 hcore hpp
  go_enter Try.func42, Try.ntmps42
  go_wp2_with fail
  go_loopw [6] (fun j wr => ∃ k : Nat, k ≤ C.w0.length ∧ j = .int .i64 k ∧ Kp (Below w.heap.size w wr) ∧ Kp ((C.w0.take k).any p = false)) (fun j wr => C.w0.length - (intOf j).toNat)
  case atStart => exact ⟨0, Nat.zero_le _, rfl, ⟨below_al (Below.refl _ _) _⟩, ⟨rfl⟩⟩
  case round =>
    obtain ⟨k, hk, rfl, HB, HN⟩ := hrel
    by_cases hlt : k < C.w0.length
    · obtain ⟨g, o, ha, hg, hcc⟩ := HW.out.at (by omega)
      obtain ⟨x, hx⟩ : ∃ x, C.w0[k] = x := ⟨_, rfl⟩
      have hcu : ∀ j, j < 3 → wr.cell? ⟨g, o + k * 3 + j, none⟩ = (winC x)[j]? := fun j hj => by
        have h1 := hcc (k * 3 + j) (by omega)
        rw [flat_at winC 3 winC_len C.w0 k j hlt hj, hx] at h1
        rw [Nat.add_assoc]
        exact (HB.out.cell (p := ⟨g, o + (k * 3 + j), none⟩) hg).trans h1
      have e0 : wr.cell? ⟨g, o + k * 3, none⟩ = some (.int .i64 x.part) := hcu 0 (by omega)
      have HA : Kp ((C.w0.take (k + 1)).any p = ((C.w0.take k).any p || p x)) := ⟨by rw [List.take_succ_eq_append_getElem hlt, List.any_append, hx]; simp⟩
      have HX : Kp (x ∈ C.w0) := ⟨hx ▸ List.getElem_mem hlt⟩
      have HY : Kp (p x = true → C.w0.any p = true) := ⟨fun h => List.any_eq_true.2 ⟨x, HX.out, h⟩⟩
      have HN1 : Kp (p x = false → (C.w0.take (k + 1)).any p = false) := ⟨fun h => by rw [HA.out, HN.out, h]; rfl⟩
      obtain ⟨d, hd⟩ : ∃ d, (x.part == (i : Int)) = d := ⟨_, rfl⟩
      have HPX : Kp (p x = d) := ⟨by rw [HPP.out, ← hd]⟩
      subst ha
      clear hcu hcc hx HA HN HX
      cases d with
      | true =>
        have HT := Kp.mk (HY.out HPX.out)
        go_wp2
        go_ret
        exact ⟨ret_bool HT.out.symm, HB.out⟩
      | false =>
        have HN2 := Kp.mk (HN1.out HPX.out)
        go_wp2
        go_roundw
        case rel => exact ⟨k + 1, by omega, by go_num, HB, HN2⟩
        case measure => simp [intOf]; omega
    · obtain rfl : k = C.w0.length := by omega
      have h1 := HN.out
      rw [List.take_length] at h1
      have HF := Kp.mk h1
      clear h1
      go_wp2
      go_ret
      exact ⟨ret_bool HF.out.symm, HB.out⟩

set_option maxRecDepth 100000 in
set_option maxHeartbeats 4000000 in
theorem window07_1 (cv : Value) (C : Cfg) (hsm : C.small) (i : Nat) (hi : i < C.parts.length) (hcore : C.parts[i].1 = 1) (w : World) (h : CfgAt w cv C) : Calls Try.prog 42 #[cv, .int .i64 i] w fun e w' => e = .returned (.bool (C.w1.any fun y => y.part == (i : Int))) ∧ Below w.heap.size w w' := by
  obtain ⟨ho, pa, pc, ca, cc, a0, c0, a1, c1, rfl, bp, bc, b0, b1, hp, hc, hw0, hw1⟩ := h
  have HP := Kp.mk hp
  have HW := Kp.mk hw1
  have hs3 := hsm.2.2.2
  clear hp hc hw0 hw1 ho
  obtain ⟨g2, o2, hpa, hg2, hcc2⟩ := HP.out.at (by omega)
  have hcj := hcc2 (i * 2 + 0) (by omega)
  rw [flat_at partC 2 partC_len C.parts i 0 hi (by omega)] at hcj
  have hci : w.cell? ⟨g2, o2 + i * 2, none⟩ = some (.int .i64 1) := by
    have h1 : w.cell? ⟨g2, o2 + i * 2, none⟩ = some (.int .i64 C.parts[i].1) := hcj
    rw [h1, hcore]
  have i0 : (0 : Int) ≤ (i : Int) := by omega
  have i1 : (i : Int) < (C.parts.length : Int) := by omega
  obtain ⟨p, hpp⟩ : ∃ p : Win → Bool, p = fun y => y.part == (i : Int) := ⟨_, rfl⟩
  have HPP := Kp.mk hpp
  rw [← hpp]
  subst hpa
  clear hcj hcc2 hcore hpp
  go_enter Try.func42, Try.ntmps42
  go_wp2_with fail
  go_loopw [6] (fun j wr => ∃ k : Nat, k ≤ C.w1.length ∧ j = .int .i64 k ∧ Kp (Below w.heap.size w wr) ∧ Kp ((C.w1.take k).any p = false)) (fun j wr => C.w1.length - (intOf j).toNat)
  case atStart => exact ⟨0, Nat.zero_le _, rfl, ⟨below_al (Below.refl _ _) _⟩, ⟨rfl⟩⟩
  case round =>
    obtain ⟨k, hk, rfl, HB, HN⟩ := hrel
    by_cases hlt : k < C.w1.length
    · obtain ⟨g, o, ha, hg, hcc⟩ := HW.out.at (by omega)
      obtain ⟨x, hx⟩ : ∃ x, C.w1[k] = x := ⟨_, rfl⟩
      have hcu : ∀ j, j < 3 → wr.cell? ⟨g, o + k * 3 + j, none⟩ = (winC x)[j]? := fun j hj => by
        have h1 := hcc (k * 3 + j) (by omega)
        rw [flat_at winC 3 winC_len C.w1 k j hlt hj, hx] at h1
        rw [Nat.add_assoc]
        exact (HB.out.cell (p := ⟨g, o + (k * 3 + j), none⟩) hg).trans h1
      have e0 : wr.cell? ⟨g, o + k * 3, none⟩ = some (.int .i64 x.part) := hcu 0 (by omega)
      have HA : Kp ((C.w1.take (k + 1)).any p = ((C.w1.take k).any p || p x)) := ⟨by rw [List.take_succ_eq_append_getElem hlt, List.any_append, hx]; simp⟩
      have HX : Kp (x ∈ C.w1) := ⟨hx ▸ List.getElem_mem hlt⟩
      have HY : Kp (p x = true → C.w1.any p = true) := ⟨fun h => List.any_eq_true.2 ⟨x, HX.out, h⟩⟩
      have HN1 : Kp (p x = false → (C.w1.take (k + 1)).any p = false) := ⟨fun h => by rw [HA.out, HN.out, h]; rfl⟩
      obtain ⟨d, hd⟩ : ∃ d, (x.part == (i : Int)) = d := ⟨_, rfl⟩
      have HPX : Kp (p x = d) := ⟨by rw [HPP.out, ← hd]⟩
      subst ha
      clear hcu hcc hx HA HN HX
      cases d with
      | true =>
        have HT := Kp.mk (HY.out HPX.out)
        go_wp2
        go_ret
        exact ⟨ret_bool HT.out.symm, HB.out⟩
      | false =>
        have HN2 := Kp.mk (HN1.out HPX.out)
        go_wp2
        go_roundw
        case rel => exact ⟨k + 1, by omega, by go_num, HB, HN2⟩
        case measure => simp [intOf]; omega
    · obtain rfl : k = C.w1.length := by omega
      have h1 := HN.out
      rw [List.take_length] at h1
      have HF := Kp.mk h1
      clear h1
      go_wp2
      go_ret
      exact ⟨ret_bool HF.out.symm, HB.out⟩

set_option maxHeartbeats 1000000 in
theorem window07_no (cv : Value) (C : Cfg) (i : Nat) (hi : i < C.parts.length) (h0 : C.parts[i].1 ≠ 0) (h1 : C.parts[i].1 ≠ 1) (w : World) (h : CfgAt w cv C) : Calls Try.prog 42 #[cv, .int .i64 i] w fun e w' => e = .returned (.bool false) ∧ Below w.heap.size w w' := by
  obtain ⟨ho, pa, pc, ca, cc, a0, c0, a1, c1, rfl, bp, bc, b0, b1, hp, hc, hw0, hw1⟩ := h
  have HP := Kp.mk hp
  clear hp hc hw0 hw1 ho
  obtain ⟨g2, o2, hpa, hg2, hcc2⟩ := HP.out.at (by omega)
  have hcj := hcc2 (i * 2 + 0) (by omega)
  rw [flat_at partC 2 partC_len C.parts i 0 hi (by omega)] at hcj
  obtain ⟨q, hq⟩ : ∃ q, C.parts[i].1 = q := ⟨_, rfl⟩
  have hci : w.cell? ⟨g2, o2 + i * 2, none⟩ = some (.int .i64 q) := by
    have h1 : w.cell? ⟨g2, o2 + i * 2, none⟩ = some (.int .i64 C.parts[i].1) := hcj
    rw [h1, hq]
  rw [hq] at h0 h1
  have i0 : (0 : Int) ≤ (i : Int) := by omega
  have i1 : (i : Int) < (C.parts.length : Int) := by omega
  have b0' : (q != 0) = true := by simpa using h0
  have b1' : (q != 1) = true := by simpa using h1
  subst hpa
  clear hcj hcc2 hq
  go_enter Try.func42, Try.ntmps42
  go_wp2
  go_ret
  exact ⟨rfl, (by repeat (first | exact Below.refl _ _ | apply below_al))⟩
theorem window07_any (cv : Value) (C : Cfg) (hsm : C.small) (i : Nat) (hi : i < C.parts.length) (b : Bool) (hb : idleB C i = b) (w : World) (h : CfgAt w cv C) : Calls Try.prog 42 #[cv, .int .i64 i] w fun e w' => e = .returned (.bool (!b)) ∧ Below w.heap.size w w' := by
  have hid : idleB C i = (!inB C.parts[i].1 0 1 || !((C.winI C.parts[i].1).any fun x => x.part == (i : Int))) := by
    rw [idleB, List.getD_eq_getElem?_getD, List.getElem?_eq_getElem hi, Option.getD_some]
  by_cases h0 : C.parts[i].1 = 0
  · refine (window07_0 cv C hsm i hi h0 w h).mono ?_
    rintro e w1 ⟨rfl, hb1⟩
    refine ⟨ret_bool ?_, hb1⟩
    rw [← hb, hid, h0, inB_true (by omega), Bool.not_or, Bool.not_not, Bool.not_not, Bool.true_and]
    rfl
  · by_cases h1 : C.parts[i].1 = 1
    · refine (window07_1 cv C hsm i hi h1 w h).mono ?_
      rintro e w1 ⟨rfl, hb1⟩
      refine ⟨ret_bool ?_, hb1⟩
      rw [← hb, hid, h1, inB_true (by omega), Bool.not_or, Bool.not_not, Bool.not_not, Bool.true_and]
      rfl
    · refine (window07_no cv C i hi h0 h1 w h).mono ?_
      rintro e w1 ⟨rfl, hb1⟩
      refine ⟨ret_bool ?_, hb1⟩
      rw [← hb, hid, inB_false (by omega)]
      rfl
end Go.Proofs.Ytmidcnfmphlneaa

/- The law RingRoom. -/
import Derived.Test.YtmidcnfmphlneaaGreatQ26
namespace Go.Proofs.YtmidcnfmphlneaaGreat
open Go.RowKit
set_option linter.unusedSimpArgs false
set_option linter.unusedVariables false
def abIt (f : Ab → Ab) : Nat → Ab → Ab
  | 0, a => a
  | k + 1, a => f (abIt f k a)
def a0 : Ab := ⟨0, 0, 0, 0, 0, 0, false, false⟩
theorem room_plain (wd dp : Nat) (hw : 1 ≤ wd ∧ wd ≤ 4) (hd : dp = 1 ∨ dp = 2 ∨ dp = 4 ∨ dp = 8) : (abIt (abS wd dp) (20 * dp) a0).sent = dp ∧ (abIt (abS wd dp) (20 * dp) a0).got = 0 ∧ (abIt (abQ wd) (20 * dp) (abIt (abS wd dp) (20 * dp) a0)).got = dp ∧ (abIt (abQ wd) (20 * dp) (abIt (abS wd dp) (20 * dp) a0)).sent = dp := by
  have h : wd = 1 ∨ wd = 2 ∨ wd = 3 ∨ wd = 4 := by omega
  rcases h with rfl | rfl | rfl | rfl <;> rcases hd with rfl | rfl | rfl | rfl <;> decide +kernel
set_option maxRecDepth 100000 in
set_option maxHeartbeats 8000000 in
theorem ringRoom_main (h0 h1 bt : Int) (q0 : 0 ≤ h0 ∧ h0 ≤ 255) (q1 : 0 ≤ h1 ∧ h1 ≤ 255) (qb : 0 ≤ bt ∧ bt < 4294967296) (w : World) :
    Calls Tryz.prog 7 #[.agg #[.int .u8 h0, .int .u8 h1], .int .u32 bt] w fun e w' => e = .returned (.bool true) ∧ Below w.heap.size w w' := by
  obtain ⟨wd, e, dp, hwd4, he3, hdp, v2, u1, hsh⟩ := how_any h0 h1 q0 q1
  have v1 : IntKind.i64.wrap h0 = h0 := IntWalk.i64_in _ (by omega)
  have v3 : IntKind.i64.wrap (wd - 1) = wd - 1 := IntWalk.i64_in _ (by omega)
  have v4 : 1 + (wd - 1) = wd := by omega
  have v5 : IntKind.i64.wrap wd = wd := IntWalk.i64_in _ (by omega)
  have u2 : IntKind.u8.wrap e = e := IntWalk.u8_in _ (by omega)
  have he0 : 0 ≤ e := he3.1
  have he64 : e ≤ 64 := by omega
  have hsh1 : IntKind.i64.wrap dp = dp := IntWalk.i64_in _ (by omega)
  have hi : In12 wd dp bt := ⟨by omega, hdp, qb⟩
  have hdb := dp_bound hi
  obtain ⟨nn, hnn⟩ : ∃ nn : Nat, (nn : Int) = 3 + dp * (1 + wd) := ⟨(3 + dp * (1 + wd)).toNat, by omega⟩
  have HNN := Kp.mk hnn
  clear hnn
  go_enter Tryz.func7, Tryz.ntmps7
  have HB0 : Kp (Below w.heap.size w w) := ⟨Below.refl _ _⟩
  go_wp2_with fail
  refine (wakes12_any _).mono ?_
  rintro e w1 ⟨rfl, hb⟩
  have HH1 : Kp (w1.heap[w.heap.size]? = some (.cells #[.int .u8 h0, .int .u8 h1] 70 (0, 0))) := ⟨blk_below (blk_new _ _) hb⟩
  have HB1 : Kp (Below w.heap.size w w1) := ⟨below_call (below_al HB0.out _) hb⟩
  have q20 := cbk HH1.out 0 (.int .u8 h0) rfl
  have q21 := cbk HH1.out 1 (.int .u8 h1) rfl
  have ql := blk_lt HH1.out
  clear HB0 hb
  go_wp2_with fail
  refine (two12_any wd dp bt _ (two12_ok wd dp bt hi)).mono ?_
  rintro e w2 ⟨cs, rfl, hC, hb⟩
  have HB2 : Kp (Below w.heap.size w w2) := ⟨below_call HB1.out hb⟩
  obtain ⟨kc, rfl, hKC⟩ := cf12_of hC hi
  have HK := Kp.mk hKC
  clear HB1 HH1 q20 q21 ql hb hC hKC
  go_wp2_with fail
  refine (begin12_any nn HNN.out _ HK.out).mono ?_
  rintro e w3 ⟨P, B, D, BB, rfl, hP, hBB0⟩
  have HR0 : Kp (Run w2 w3 P B D BB kc wd dp bt (rs0 wd dp bt nn) 0 0 (fun _ => False) (fun _ => False) 0 0 (.pointer none) (.pointer none) [false, false] 0) := ⟨⟨hP, rs0_jr hi nn HNN.out, Nat.zero_le _⟩⟩
  clear hP
  obtain ⟨N, hN⟩ : ∃ N : Nat, N = 20 * dp.toNat := ⟨_, rfl⟩
  have n20 : IntKind.i64.wrap (20 * dp) = (N : Int) := by rw [show 20 * dp = (N : Int) by omega]; exact IntWalk.i64_in _ (by omega)
  have hN160 : N ≤ 160 := by omega
  obtain ⟨r1, r2, r3, r4⟩ := room_plain wd.toNat dp.toNat (by omega) (by omega)
  rw [← hN] at r1 r2 r3 r4
  obtain ⟨a1, ha1⟩ : ∃ a1, abIt (abS wd.toNat dp.toNat) N a0 = a1 := ⟨_, rfl⟩
  rw [ha1] at r1 r2 r3 r4
  have HA1 := Kp.mk ha1
  have HRP := Kp.mk (And.intro r1 (And.intro r2 (And.intro r3 r4)))
  have HP1 := Kp.mk HR0.out.pl.blk
  have hkw := HK.out.below HR0.out.pl.core.low
  have cd := hkw.depth
  have lcg := hkw.lt
  have lP := blk_lt HP1.out
  have c1 := cbk HP1.out 1 (.slice (some ⟨kc.cg, kc.co, none⟩) 1 kc.cc) rfl
  clear hN ha1 r1 r2 r3 r4 hkw
  go_wp2_with fail
  clear c1 cd lcg lP HP1
  go_loopw [33] (fun i wr => ∃ (k : Nat) (z : Rs) (OS OR : Nat) (S R : Nat → Prop) (st ow : Nat) (sv rv : Value) (x : List Bool), k ≤ N ∧ i = .int .i64 k ∧ Kp (Run w2 wr P B D BB kc wd dp bt z OS OR S R st ow sv rv x k) ∧ Kp (absR z = abIt (abS wd.toNat dp.toNat) k a0)) (fun i wr => N - (intOf i).toNat)
  case atStart => exact ⟨0, _, _, _, _, _, _, _, _, _, _, Nat.zero_le _, rfl, HR0, ⟨rfl⟩⟩
  case round =>
    obtain ⟨k, z, OS, OR, S, R, st, ow, sv, rv, x, hk, rfl, HR1, HAB⟩ := hrel
    clear HR0
    by_cases hlt : k < N
    · have hz : (0 : Int) ≤ (k : Int) := by omega
      have HCW := Kp.mk (HR1.out.send HK.out (by omega))
      have HAB2 : Kp (absR (nxS (pl12 wd dp) bt z) = abIt (abS wd.toNat dp.toNat) (k + 1) a0) := ⟨by rw [absR_S HR1.out.jr, HAB.out]; rfl⟩
      clear HR1 HAB
      go_wp2_with fail
      refine HCW.out.mono ?_
      rintro e w6 ⟨rfl, OS', st', S', sv', x', hr', -, -⟩
      have HR2 := Kp.mk hr'
      clear hr' HCW
      go_wp2
      go_roundw
      case rel => exact ⟨k + 1, _, OS', OR, S', R, st', ow, sv', rv, x', by omega, by go_num, HR2, HAB2⟩
      case measure => simp [intOf]; omega
    · have hkN : k = N := by omega
      have hab := HAB.out
      rw [hkN, HA1.out] at hab
      have hse : z.sent = dp.toNat := by rw [← HRP.out.1, ← hab]; rfl
      have hgo : z.got = 0 := by rw [← HRP.out.2.1, ← hab]; rfl
      have HAB3 := Kp.mk hab
      have HP1 := Kp.mk HR1.out.pl.blk
      have lP := blk_lt HP1.out
      have c12 : wr.cell? ⟨P, 12, none⟩ = some (.int .i64 dp) := (cell_blk HP1.out 12).trans (by show some (Value.int .i64 (z.sent : Int)) = _; rw [hse, Int.toNat_of_nonneg (by omega)])
      have c13 : wr.cell? ⟨P, 13, none⟩ = some (.int .i64 0) := (cell_blk HP1.out 13).trans (by show some (Value.int .i64 (z.got : Int)) = _; rw [hgo]; rfl)
      have hnk : ¬ ((k : Int) < (N : Int)) := by omega
      clear hab hse hgo HAB HP1
      go_wp2_with fail
      clear c12 c13 lP
      go_loopw [54] (fun i wr => ∃ (j : Nat) (z : Rs) (OS OR : Nat) (S R : Nat → Prop) (st ow : Nat) (sv rv : Value) (x : List Bool), j ≤ N ∧ i = .int .i64 j ∧ Kp (Run w2 wr P B D BB kc wd dp bt z OS OR S R st ow sv rv x (k + j)) ∧ Kp (absR z = abIt (abQ wd.toNat) j a1)) (fun i wr => N - (intOf i).toNat)
      case atStart => exact ⟨0, _, _, _, _, _, _, _, _, _, _, Nat.zero_le _, rfl, HR1, HAB3⟩
      case round =>
        obtain ⟨j, z2, OS2, OR2, S2, R2, st2, ow2, sv2, rv2, x2, hj, rfl, HR2, HAB⟩ := hrel
        clear HR1 HAB3
        by_cases hlt2 : j < N
        · have hz : (0 : Int) ≤ (j : Int) := by omega
          have HCW := Kp.mk (HR2.out.recv HK.out (by omega))
          have HAB2 : Kp (absR (nxQ (pl12 wd dp) bt z2) = abIt (abQ wd.toNat) (j + 1) a1) := ⟨by rw [absR_Q HR2.out.jr, HAB.out]; rfl⟩
          clear HR2 HAB
          go_wp2_with fail
          refine HCW.out.mono ?_
          rintro e w6 ⟨rfl, OR', ow', R', rv', hr', -, -⟩
          have HR3 := Kp.mk hr'
          clear hr' HCW
          go_wp2
          go_roundw
          case rel => exact ⟨j + 1, _, OS2, OR', S2, R', st2, ow', sv2, rv', x2, by omega, by go_num, HR3, HAB2⟩
          case measure => simp [intOf]; omega
        · have hjN : j = N := by omega
          have hab := HAB.out
          rw [hjN] at hab
          have hse : z2.sent = dp.toNat := by rw [← HRP.out.2.2.2, ← hab]; rfl
          have hgo : z2.got = dp.toNat := by rw [← HRP.out.2.2.1, ← hab]; rfl
          have HP1 := Kp.mk HR2.out.pl.blk
          have HLO := Kp.mk HR2.out.pl.core.low
          have lP := blk_lt HP1.out
          have c12 : wr.cell? ⟨P, 12, none⟩ = some (.int .i64 dp) := (cell_blk HP1.out 12).trans (by show some (Value.int .i64 (z2.sent : Int)) = _; rw [hse, Int.toNat_of_nonneg (by omega)])
          have c13 : wr.cell? ⟨P, 13, none⟩ = some (.int .i64 dp) := (cell_blk HP1.out 13).trans (by show some (Value.int .i64 (z2.got : Int)) = _; rw [hgo, Int.toNat_of_nonneg (by omega)])
          have hnk2 : ¬ ((j : Int) < (N : Int)) := by omega
          clear hab hse hgo HAB HP1 HR2
          go_wp2
          go_ret
          exact ⟨rfl, HB2.out.trans (HLO.out.mono HB2.out.size)⟩
theorem ringRoom_any (v0 v1 : Value) (W : World) (o0 : RdV W (.pair 1 (.int .u8) (.pair 1 (.int .u8) .nil)) v0) (o1 : RdV W (.int .u32) v1) : Calls Tryz.prog 7 #[v0, v1] W fun e W' => e = .returned (.bool true) ∧ Below W.heap.size W W' := by
  obtain ⟨h0, h1, rfl, q0, q1⟩ := how_of o0
  obtain ⟨bt, rfl, hb⟩ := o1
  exact ringRoom_main h0 h1 bt q0 q1 (by have := bounds_u32 hb; omega) W
end Go.Proofs.YtmidcnfmphlneaaGreat

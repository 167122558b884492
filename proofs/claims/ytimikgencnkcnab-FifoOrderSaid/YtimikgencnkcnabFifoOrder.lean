/- The law FifoOrder: its walk. -/
import Derived.Test.YtimikgencnkcnabTold3
import Derived.Test.YtimikgencnkcnabFifoP
import Derived.Test.YtimikgencnkcnabRead
import Derived.Test.YtimikgencnkcnabInts
namespace Go.Proofs.Ytimikgencnkcnab
open Go.RowKit
set_option linter.unusedSimpArgs false
set_option linter.unusedVariables false

theorem own_but {S : List Nat} {w w1 : World} {base : Nat} {e : TypeId} {k : Nat} {v : Value} {n : Nat} {cs : List Value} (h : w.ownsRow base e k v n cs) (hb : ButS S w w1) (hS : ∀ b, b ∈ S → b < base) : w1.ownsRow base e k v n cs := by
  obtain ⟨h0, h | ⟨g, cap, cur, h1, h2, h3, r⟩⟩ := h
  · exact ⟨h0, .inl h⟩
  · exact ⟨h0, .inr ⟨g, cap, cur, h1, h2, hb.blk h3 fun hm => by have := hS g hm; omega, r⟩⟩

set_option maxRecDepth 100000 in
set_option maxHeartbeats 8000000 in
theorem fifoOrder_core (m : Int) (hm0 : 0 ≤ m) (hm1 : m ≤ 255) (v : Value) (xs : List Int) (hx : xs.length ≤ 300) (w : World) (h : RowAt w 1 v xs.length (xs.map (Value.int .i64))) :
    Calls Try.prog 3 #[.int .u8 m, v] w fun e w' => e = .returned (.bool true) ∧ Below w.heap.size w w' := by
  obtain ⟨a, ca, rfl, h3, h4⟩ := h.shape
  obtain ⟨cap, hcap⟩ : ∃ cap : Nat, (cap : Int) = 1 + m := ⟨(1 + m).toNat, by omega⟩
  have h1 : 1 ≤ cap := by omega
  have h2 : cap ≤ 4096 := by omega
  have hcw : IntKind.i64.wrap (1 + m) = (cap : Int) := by rw [hcap]; exact IntWalk.i64_in _ (by omega)
  obtain ⟨i0, hi, hz0, hz1, hz2⟩ := info_parts Try.infoInt
  have H1 := Kp.mk h
  clear h
  go_enter Try.func3, Try.ntmps3
  go_wp2_with fail
  refine (wakes3_any _).mono ?_
  rintro e w1 ⟨rfl, hb1⟩
  go_wp2_with fail
  try rw [← hcap]
  refine (fifoPNew_any cap h1 h2 _).mono ?_
  rintro e w2 ⟨B, D, rfl, hq, hb2, hB, hD⟩
  have HB0 := Kp.mk (below_call hb1 hb2)
  obtain ⟨hBl, hDl, hBD, _, _, _⟩ := hq.out.lt
  have hw1 := hb1.size
  have hw2 := hb2.size
  obtain ⟨n₀, hn₀⟩ : ∃ n₀, w2.heap.size = n₀ := ⟨_, rfl⟩
  have HZ0 : Kp (n₀ ≤ w2.heap.size) := ⟨Nat.le_of_eq hn₀.symm⟩
  rw [hn₀] at hBl hDl hw2
  clear hb1 hb2 hn₀
  go_wp2_with fail
  go_loopw [7, 8, 35] (fun vi vo i wr => ∃ (k : Nat) (q : List (Int × Int)) (ins outs : List Int), k ≤ xs.length ∧ i = .int .i64 k ∧ Kp (Below w.heap.size w wr) ∧ Kp (QPAt wr B D cap q) ∧ Kp (wr.ownsRow n₀ 3 1 vi ins.length (i64s ins)) ∧ Kp (wr.ownsRow n₀ 3 1 vo outs.length (i64s outs)) ∧ Kp (∀ b, vi.ownBlock = some b → vo.ownBlock = some b → False) ∧ Kp (outs ++ q.map Prod.snd = ins) ∧ Kp (n₀ ≤ wr.heap.size) ∧ Kp (ins.length ≤ k)) (fun vi vo i wr => xs.length - (intOf i).toNat)
  case atStart => exact ⟨0, [], [], [], Nat.zero_le _, rfl, HB0, hq, ⟨World.ownsRow_nil _ _ _ _⟩, ⟨World.ownsRow_nil _ _ _ _⟩, ⟨by intro b h; simp [Value.ownBlock] at h⟩, ⟨rfl⟩, HZ0, ⟨Nat.le_refl _⟩⟩
  case round =>
    obtain ⟨k, q, ins, outs, hk, rfl, HB, HQ, HI, HO, HA, HIO, HZ, HC⟩ := hrel
    have hqc := HQ.out.lt.2.2.2.1
    have hcl := HC.out
    by_cases hlt : k < xs.length
    · obtain ⟨g, o, rfl, hg, hc⟩ := H1.out.at (by omega)
      have c0 : wr.cell? ⟨g, o + k, none⟩ = some (.int .i64 xs[k]) := (HB.out.cell (p := ⟨g, o + k, none⟩) hg).trans ((hc k (by omega)).trans (by simp [hlt]))
      clear hc
      by_cases hn : (Int.tmod xs[k] 3 != 0) = true
      · by_cases hf : q.length = cap
        · have HF := Kp.mk hf
          clear hf
          go_wp2_with fail
          refine (fifoPPut_full B D cap q xs[k] k _ HQ.out HF.out).mono ?_
          rintro e w4 ⟨rfl, hb4⟩
          have HB4 := Kp.mk (below_call HB.out hb4)
          have HQ4 := Kp.mk (HQ.out.below hb4)
          have HI4 := Kp.mk (own_below HI.out hb4)
          have HO4 := Kp.mk (own_below HO.out hb4)
          have HZ4 : Kp (n₀ ≤ w4.heap.size) := ⟨Nat.le_trans HZ.out hb4.size⟩
          clear hb4
          go_wp2
          go_roundw
          case rel => exact ⟨k + 1, q, ins, outs, by omega, by go_num, HB4, HQ4, HI4, HO4, HA, HIO, HZ4, ⟨by omega⟩⟩
          case measure => simp [intOf]; omega
        · have hroom : q.length < cap := by omega
          clear hf
          go_wp2_with fail
          refine (fifoPPut_room B D cap q xs[k] k _ HQ.out hroom).mono ?_
          rintro e w5 ⟨rfl, hb4, HQ4⟩
          have HB4 := Kp.mk (hb4.below HB.out (by intro b hb; simp at hb; omega) HB.out.size)
          have HI4 := Kp.mk (own_but HI.out hb4 (by intro b hb; simp at hb; omega))
          have HO4 := Kp.mk (own_but HO.out hb4 (by intro b hb; simp at hb; omega))
          have hn9 : n₀ ≤ w5.heap.size := Nat.le_trans HZ.out hb4.size
          clear hb4
          go_wp2_with (at_builtin; refine wpList_append_own_at _ rfl _ _ 22 rfl n₀ 3 i0 (.int .i64 0) 1 8 Try.underlying22 hi hz0 hz1 hz2 rfl (by decide) _ _ _ rfl (HI4.out.alloc _) ⟨(w5).heap.size, 0, none⟩ 1 1 [.int .i64 (k : Int)] rfl rfl (cell_one_new _ _ _) (by simp [Value.oneCell']) (by unfold maxLen; omega) (by omega) (by simp; omega) ?_; intro v' w9 hown' hgrow _ hblk; replace hgrow : World.grownBy _ _ u7.ownBlock := hgrow; replace hblk : v'.ownBlock = u7.ownBlock ∨ _ := hblk)
          have B9 : Kp (Below n₀ (w5) w9) := ⟨below_own2 ((Below.refl _ _).alloc hn9 _) (by simp; omega) (Nat.le_refl _) (HI4.out.alloc _) hgrow⟩
          have H9 : Kp (w9.ownsRow n₀ 3 1 v' (ins ++ [(k : Int)]).length (i64s (ins ++ [(k : Int)]))) := ⟨by
            rw [List.length_append, i64s, List.map_append]
            exact hown'⟩
          have O9 := Kp.mk (World.ownsRow.kept (HO4.out.alloc _) hgrow (by
            cases hob : u8.ownBlock with
            | none => exact .inl rfl
            | some b => exact .inr fun h => HA.out b (h.symm) (hob)))
          have AP9 : Kp (∀ b, v'.ownBlock = some b → u8.ownBlock = some b → False) := ⟨fun b h1 h2 => by
            have hlt := (HO4.out.lt b (h2)).2
            rcases hblk with h | h
            · exact HA.out b (h.symm ▸ h1) (h2)
            · rw [h] at h1
              simp at h1
              omega⟩
          have HZ9 : n₀ ≤ w9.heap.size := Nat.le_trans hn9 B9.out.size
          clear hown' hgrow hblk
          have B10 := Kp.mk (HB4.out.trans (B9.out.mono (by omega)))
          have Q10 := Kp.mk (HQ4.out.low B9.out hBl hDl)
          go_wp2
          go_roundw
          case rel => exact ⟨k + 1, q ++ [(xs[k], (k : Int))], ins ++ [(k : Int)], outs, by omega, by go_num, B10, Q10, H9, O9, AP9, ⟨by rw [← HIO.out]; simp⟩, ⟨HZ9⟩, ⟨by simp; omega⟩⟩
          case measure => simp [intOf]; omega
      · rw [Bool.not_eq_true] at hn
        have HIL := HIO.out
        cases q with
        | nil =>
          go_wp2_with fail
          refine (fifoPTake_none B D cap _ HQ.out).mono ?_
          rintro e w4 ⟨rfl, hb4⟩
          have HB4 := Kp.mk (below_al (below_call HB.out hb4) (.cells #[.int .i64 0, .int .i64 0] 28))
          have HQ4 := Kp.mk ((HQ.out.below hb4).below (below_al (Below.refl _ _) (.cells #[.int .i64 0, .int .i64 0] 28)))
          have HI4 := Kp.mk ((own_below HI.out hb4).alloc (.cells #[.int .i64 0, .int .i64 0] 28))
          have HO4 := Kp.mk ((own_below HO.out hb4).alloc (.cells #[.int .i64 0, .int .i64 0] 28))
          have HZ4 : Kp (n₀ ≤ (w4.alloc (.cells #[.int .i64 0, .int .i64 0] 28)).heap.size) := ⟨by have := hb4.size; have := HZ.out; simp; omega⟩
          clear hb4
          go_wp2
          go_roundw
          case rel => exact ⟨k + 1, [], ins, outs, by omega, by go_num, HB4, HQ4, HI4, HO4, HA, HIO, HZ4, ⟨by omega⟩⟩
          case measure => simp [intOf]; omega
        | cons p q =>
          obtain ⟨x, y⟩ := p
          go_wp2_with fail
          refine (fifoPTake_some B D cap x y q _ HQ.out).mono ?_
          rintro e w4 ⟨rfl, hb4, hq4⟩
          have HB4 := Kp.mk (below_al (hb4.below HB.out (by intro b hb; simp at hb; omega) HB.out.size) (.cells #[.int .i64 x, .int .i64 y] 28))
          have HQ4 := Kp.mk (hq4.out.below (below_al (Below.refl _ _) (.cells #[.int .i64 x, .int .i64 y] 28)))
          have HI4 := Kp.mk ((own_but HI.out hb4 (by intro b hb; simp at hb; omega)).alloc (.cells #[.int .i64 x, .int .i64 y] 28))
          have HO4 := Kp.mk ((own_but HO.out hb4 (by intro b hb; simp at hb; omega)).alloc (.cells #[.int .i64 x, .int .i64 y] 28))
          have hn9 : n₀ ≤ (w4.alloc (.cells #[.int .i64 x, .int .i64 y] 28)).heap.size := by have := hb4.size; have := HZ.out; simp; omega
          have e1 : (w4.alloc (.cells #[.int .i64 x, .int .i64 y] 28)).cell? ⟨w4.heap.size, 1, none⟩ = some (.int .i64 y) := (cell_blk (blk_new _ _) 1).trans rfl
          have hol : outs.length ≤ 300 := by
            have h := congrArg List.length HIO.out
            simp only [List.length_append, List.length_map, List.length_cons] at h
            omega
          clear hb4 hq4
          generalize hw5 : w4.alloc (.cells #[.int .i64 x, .int .i64 y] 28) = w5 at HB4 HQ4 HI4 HO4 hn9 e1 ⊢
          go_wp2_with (at_builtin; refine wpList_append_own_at _ rfl _ _ 22 rfl n₀ 3 i0 (.int .i64 0) 1 8 Try.underlying22 hi hz0 hz1 hz2 rfl (by decide) _ _ _ rfl (HO4.out.alloc _) ⟨(w5).heap.size, 0, none⟩ 1 1 [.int .i64 y] rfl rfl (cell_one_new _ _ _) (by simp [Value.oneCell']) (by unfold maxLen; omega) (by omega) (by simp; omega) ?_; intro v' w9 hown' hgrow _ hblk; replace hgrow : World.grownBy _ _ u8.ownBlock := hgrow; replace hblk : v'.ownBlock = u8.ownBlock ∨ _ := hblk)
          have B9 : Kp (Below n₀ (w5) w9) := ⟨below_own2 ((Below.refl _ _).alloc hn9 _) (by simp; omega) (Nat.le_refl _) (HO4.out.alloc _) hgrow⟩
          have H9 : Kp (w9.ownsRow n₀ 3 1 v' (outs ++ [y]).length (i64s (outs ++ [y]))) := ⟨by
            rw [List.length_append, i64s, List.map_append]
            exact hown'⟩
          have O9 := Kp.mk (World.ownsRow.kept (HI4.out.alloc _) hgrow (by
            cases hob : u7.ownBlock with
            | none => exact .inl rfl
            | some b => exact .inr fun h => HA.out b (hob) (h.symm)))
          have AP9 : Kp (∀ b, u7.ownBlock = some b → v'.ownBlock = some b → False) := ⟨fun b h1 h2 => by
            have hlt := (HI4.out.lt b (h1)).2
            rcases hblk with h | h
            · exact HA.out b (h1) (h.symm ▸ h2)
            · rw [h] at h2
              simp at h2
              omega⟩
          have HZ9 : n₀ ≤ w9.heap.size := Nat.le_trans hn9 B9.out.size
          clear hown' hgrow hblk
          have B10 := Kp.mk (HB4.out.trans (B9.out.mono (by omega)))
          have Q10 := Kp.mk (HQ4.out.low B9.out hBl hDl)
          go_wp2
          go_roundw
          case rel => exact ⟨k + 1, q, ins, outs ++ [y], by omega, by go_num, B10, Q10, O9, H9, AP9, ⟨by simpa using HIO.out⟩, ⟨HZ9⟩, ⟨by omega⟩⟩
          case measure => simp [intOf]; omega
    · obtain rfl : k = xs.length := by omega
      go_wp2_with fail
      go_loopw [8, 68] (fun vo i wr => ∃ (k : Nat) (q : List (Int × Int)) (ins outs : List Int), k ≤ xs.length ∧ i = .int .i64 k ∧ Kp (Below w.heap.size w wr) ∧ Kp (QPAt wr B D cap q) ∧ Kp (wr.ownsRow n₀ 3 1 u7 ins.length (i64s ins)) ∧ Kp (wr.ownsRow n₀ 3 1 vo outs.length (i64s outs)) ∧ Kp (∀ b, u7.ownBlock = some b → vo.ownBlock = some b → False) ∧ Kp (outs ++ q.map Prod.snd = ins) ∧ Kp (n₀ ≤ wr.heap.size) ∧ Kp (q.length ≤ xs.length - k ∧ ins.length ≤ xs.length)) (fun vo i wr => xs.length - (intOf i).toNat)
      case atStart => exact ⟨0, q, ins, outs, Nat.zero_le _, rfl, HB, HQ, HI, HO, HA, HIO, HZ, ⟨by
        have h := congrArg List.length HIO.out
        simp only [List.length_append, List.length_map] at h
        omega⟩⟩
      case round =>
        clear hcl hqc hlt HB HQ HI HO HA HIO HZ HC
        obtain ⟨k, q, ins, outs, hk, rfl, HB, HQ, HI, HO, HA, HIO, HZ, HC⟩ := hrel
        have hqc := HQ.out.lt.2.2.2.1
        have hcl := HC.out
        by_cases hlt : k < xs.length
        · have HIL := HIO.out
          cases q with
          | nil =>
            go_wp2_with fail
            refine (fifoPTake_none B D cap _ HQ.out).mono ?_
            rintro e w4 ⟨rfl, hb4⟩
            have HB4 := Kp.mk (below_al (below_call HB.out hb4) (.cells #[.int .i64 0, .int .i64 0] 28))
            have HQ4 := Kp.mk ((HQ.out.below hb4).below (below_al (Below.refl _ _) (.cells #[.int .i64 0, .int .i64 0] 28)))
            have HI4 := Kp.mk ((own_below HI.out hb4).alloc (.cells #[.int .i64 0, .int .i64 0] 28))
            have HO4 := Kp.mk ((own_below HO.out hb4).alloc (.cells #[.int .i64 0, .int .i64 0] 28))
            have HZ4 : Kp (n₀ ≤ (w4.alloc (.cells #[.int .i64 0, .int .i64 0] 28)).heap.size) := ⟨by have := hb4.size; have := HZ.out; simp; omega⟩
            clear hb4
            go_wp2
            go_roundw
            case rel => exact ⟨k + 1, [], ins, outs, by omega, by go_num, HB4, HQ4, HI4, HO4, HA, HIO, HZ4, ⟨by simp; omega⟩⟩
            case measure => simp [intOf]; omega
          | cons p q =>
            obtain ⟨x, y⟩ := p
            go_wp2_with fail
            refine (fifoPTake_some B D cap x y q _ HQ.out).mono ?_
            rintro e w4 ⟨rfl, hb4, hq4⟩
            have HB4 := Kp.mk (below_al (hb4.below HB.out (by intro b hb; simp at hb; omega) HB.out.size) (.cells #[.int .i64 x, .int .i64 y] 28))
            have HQ4 := Kp.mk (hq4.out.below (below_al (Below.refl _ _) (.cells #[.int .i64 x, .int .i64 y] 28)))
            have HI4 := Kp.mk ((own_but HI.out hb4 (by intro b hb; simp at hb; omega)).alloc (.cells #[.int .i64 x, .int .i64 y] 28))
            have HO4 := Kp.mk ((own_but HO.out hb4 (by intro b hb; simp at hb; omega)).alloc (.cells #[.int .i64 x, .int .i64 y] 28))
            have hn9 : n₀ ≤ (w4.alloc (.cells #[.int .i64 x, .int .i64 y] 28)).heap.size := by have := hb4.size; have := HZ.out; simp; omega
            have e1 : (w4.alloc (.cells #[.int .i64 x, .int .i64 y] 28)).cell? ⟨w4.heap.size, 1, none⟩ = some (.int .i64 y) := (cell_blk (blk_new _ _) 1).trans rfl
            have hol : outs.length ≤ 300 := by
              have h := congrArg List.length HIO.out
              simp only [List.length_append, List.length_map, List.length_cons] at h
              omega
            clear hb4 hq4
            generalize hw5 : w4.alloc (.cells #[.int .i64 x, .int .i64 y] 28) = w5 at HB4 HQ4 HI4 HO4 hn9 e1 ⊢
            go_wp2_with (at_builtin; refine wpList_append_own_at _ rfl _ _ 22 rfl n₀ 3 i0 (.int .i64 0) 1 8 Try.underlying22 hi hz0 hz1 hz2 rfl (by decide) _ _ _ rfl (HO4.out.alloc _) ⟨(w5).heap.size, 0, none⟩ 1 1 [.int .i64 y] rfl rfl (cell_one_new _ _ _) (by simp [Value.oneCell']) (by unfold maxLen; omega) (by omega) (by simp; omega) ?_; intro v' w9 hown' hgrow _ hblk; replace hgrow : World.grownBy _ _ u8.ownBlock := hgrow; replace hblk : v'.ownBlock = u8.ownBlock ∨ _ := hblk)
            have B9 : Kp (Below n₀ (w5) w9) := ⟨below_own2 ((Below.refl _ _).alloc hn9 _) (by simp; omega) (Nat.le_refl _) (HO4.out.alloc _) hgrow⟩
            have H9 : Kp (w9.ownsRow n₀ 3 1 v' (outs ++ [y]).length (i64s (outs ++ [y]))) := ⟨by
              rw [List.length_append, i64s, List.map_append]
              exact hown'⟩
            have O9 := Kp.mk (World.ownsRow.kept (HI4.out.alloc _) hgrow (by
              cases hob : u7.ownBlock with
              | none => exact .inl rfl
              | some b => exact .inr fun h => HA.out b (hob) (h.symm)))
            have AP9 : Kp (∀ b, u7.ownBlock = some b → v'.ownBlock = some b → False) := ⟨fun b h1 h2 => by
              have hlt := (HI4.out.lt b (h1)).2
              rcases hblk with h | h
              · exact HA.out b (h1) (h.symm ▸ h2)
              · rw [h] at h2
                simp at h2
                omega⟩
            have HZ9 : n₀ ≤ w9.heap.size := Nat.le_trans hn9 B9.out.size
            clear hown' hgrow hblk
            have B10 := Kp.mk (HB4.out.trans (B9.out.mono (by omega)))
            have Q10 := Kp.mk (HQ4.out.low B9.out hBl hDl)
            go_wp2
            go_roundw
            case rel => exact ⟨k + 1, q, ins, outs ++ [y], by omega, by go_num, B10, Q10, O9, H9, AP9, ⟨by simpa using HIO.out⟩, ⟨HZ9⟩, ⟨by simp only [List.length_cons] at hcl; omega⟩⟩
            case measure => simp [intOf]; omega
        · obtain rfl : k = xs.length := by omega
          obtain rfl : q = [] := List.eq_nil_of_length_eq_zero (by omega)
          have hio := HIO.out
          simp only [List.map_nil, List.append_nil] at hio
          subst hio
          obtain ⟨ai, ci, rfl, hi1, hi2⟩ := (RowAt.of_own HI.out).shape
          obtain ⟨ao, co, rfl, ho1, ho2⟩ := (RowAt.of_own HO.out).shape
          go_wp2_with fail
          refine (fifoPLen_any B D cap [] _ HQ.out).mono ?_
          rintro e w4 ⟨rfl, rfl⟩
          go_wp2_with fail
          refine (rsame_any _ _ outs outs true (by simp) _ (RowAt.of_own HI.out) (RowAt.of_own HO.out)).mono ?_
          rintro e w5 ⟨rfl, hb5⟩
          go_wp2
          go_ret
          exact ⟨rfl, below_call HB.out hb5⟩

set_option maxHeartbeats 1000000 in
theorem fifoOrder_long (m : Int) (a : Option Addr) (n ca : Nat) (hx : 300 < n) (w : World) :
    Calls Try.prog 3 #[.int .u8 m, .slice a n ca] w fun e w' => e = .returned (.bool true) ∧ Below w.heap.size w w' := by
  go_enter Try.func3, Try.ntmps3
  go_wp2_with fail
  refine (wakes3_any _).mono ?_
  rintro e w1 ⟨rfl, hb1⟩
  go_wp2
  go_ret
  exact ⟨rfl, hb1⟩

theorem fifoOrder_any (v0 v1 : Value) (w : World) (h0 : RdV w (.int .u8) v0) (h1 : RdV w (.slice 1 (.int .i64)) v1) : Calls Try.prog 3 #[v0, v1] w fun e w' => e = .returned (.bool true) ∧ Below w.heap.size w w' := by
  obtain ⟨m, rfl, wm⟩ := h0
  obtain ⟨xs, hr, hw⟩ := intsAt_of h1
  by_cases hl : xs.length ≤ 300
  · exact fifoOrder_core m (bounds_u8 wm).1 (bounds_u8 wm).2 v1 xs hl w hr
  · obtain ⟨a, ca, rfl, _, _⟩ := hr.shape
    exact fifoOrder_long m a xs.length ca (by omega) w
end Go.Proofs.Ytimikgencnkcnab

/- Contracts of the reference of bells: Without, Take; and how they answer to Take itself. -/
import Derived.Test.YtimikgencnkcnabDoorBellRef
namespace Go.Proofs.YtimikgencnkcnabDoor
open Go.RowKit
set_option linter.unusedSimpArgs false
set_option linter.unusedVariables false

def outB (t : List Int) (k : Int) : Bool := t.all fun y => y != k
def withoutB (x : List Bool) (t : List Int) : List Bool := (List.range x.length).map fun k : Nat => x.getD k false && outB t k
theorem withoutB_len (x : List Bool) (t : List Int) : (withoutB x t).length = x.length := by simp [withoutB]
theorem withoutB_at (x : List Bool) (t : List Int) (k : Nat) (h : k < x.length) : (withoutB x t)[k]? = some (x[k] && outB t k) := by simp [withoutB, h]
theorem outB_succ (t : List Int) (k : Int) (m : Nat) (h : m < t.length) : outB (t.take (m + 1)) k = (outB (t.take m) k && (t[m] != k)) := by
  rw [List.take_succ_eq_append_getElem h, outB, List.all_append]; simp [outB]

set_option maxRecDepth 100000 in
set_option maxHeartbeats 2000000 in
theorem refWithout_any (v v2 : Value) (x : List Bool) (t : List Int) (hx : x.length ≤ 64) (ht : t.length ≤ 5000) (w : World) (h : RowAt w 1 v x.length (bs x)) (h2 : RowAt w 1 v2 t.length (i64s t)) :
    Calls Tryd.prog 14 #[v, v2] w fun e w' => ∃ v', e = .returned v' ∧ Kp (w'.ownsRow w.heap.size 4 1 v' (withoutB x t).length (bs (withoutB x t))) ∧ Below w.heap.size w w' := by
  obtain ⟨a, ca, rfl, h3, h4⟩ := h.shape
  obtain ⟨a2, ca2, rfl, h5, h6⟩ := h2.shape
  obtain ⟨i0, hi, hz0, hz1, hz2⟩ := info_parts Tryd.infoBool
  have H1 := Kp.mk h
  have H2 := Kp.mk h2
  have hzl := withoutB_len x t
  have hza := withoutB_at x t
  generalize withoutB x t = z at hzl hza ⊢
  have HZL := Kp.mk hzl
  have HZ := Kp.mk hza
  clear h h2 hza hzl
  unfold maxLen at h4 h6
  go_enter Tryd.func14, Tryd.ntmps14
  go_wp2_with fail
  go_loopw [5, 6] (fun vo i wr => ∃ k : Nat, k ≤ x.length ∧ i = .int .i64 k ∧ Kp (Below w.heap.size w wr) ∧ Kp (wr.ownsRow w.heap.size 4 1 vo k (bs (z.take k)))) (fun vo i wr => x.length - (intOf i).toNat)
  case atStart => exact ⟨0, Nat.zero_le _, rfl, ⟨Below.refl _ _⟩, ⟨by simpa [bs] using World.ownsRow_nil _ _ _ _⟩⟩
  case round =>
    obtain ⟨k, hk, rfl, HB, HO⟩ := hrel
    obtain ⟨av, cv, rfl, hv1, hv2⟩ := (RowAt.of_own HO.out).shape
    obtain ⟨wo, rfl⟩ : ∃ wo : World, wo = wr := ⟨_, rfl⟩
    by_cases hlt : k < x.length
    · have hxk : ∃ b, x[k] = b := ⟨_, rfl⟩
      obtain ⟨b, hxk⟩ := hxk
      obtain ⟨g, o, rfl, hg, hc⟩ := H1.out.at (by omega)
      have c0 : wo.cell? ⟨g, o + k, none⟩ = some (.bool b) := (HB.out.cell (p := ⟨g, o + k, none⟩) hg).trans ((hc k (by omega)).trans (by rw [bs_at x k hlt, hxk]))
      clear hc
      have hwr := HB.out.size
      have HZK : Kp (z[k]? = some (b && outB t k)) := ⟨by rw [HZ.out k hlt, hxk]⟩
      clear hxk
      go_wp2_with fail
      go_loopw [7, 8] (fun vb i wr => ∃ (m : Nat) (p : Bool), m ≤ t.length ∧ i = .int .i64 m ∧ vb = .bool p ∧ wr = wo ∧ Kp ((b && outB (t.take m) k) = p)) (fun vb i wr => t.length - (intOf i).toNat)
      case atStart => exact ⟨0, b, Nat.zero_le _, rfl, rfl, rfl, ⟨by cases b <;> rfl⟩⟩
      case round =>
        obtain ⟨m, p, hm, rfl, rfl, rfl, HP⟩ := hrel
        by_cases hlt2 : m < t.length
        · obtain ⟨g2, o2, rfl, hg2, hc2⟩ := H2.out.at (by omega)
          have HS : Kp ((b && outB (t.take (m + 1)) k) = (p && (t[m] != (k : Int)))) := ⟨by rw [outB_succ t k m hlt2, ← HP.out, Bool.and_assoc]⟩
          have c1 : wr.cell? ⟨g2, o2 + m, none⟩ = some (.int .i64 t[m]) := (HB.out.cell (p := ⟨g2, o2 + m, none⟩) hg2).trans ((hc2 m (by omega)).trans (i64s_at t m hlt2))
          clear hc2 c0
          obtain ⟨y, hy⟩ : ∃ y, t[m] = y := ⟨_, rfl⟩
          rw [hy] at c1 HS
          clear hy
          cases p with
          | false =>
            go_wp2
            go_roundw
            case rel => exact ⟨m + 1, false, by omega, by go_num, by first | rfl | trivial, by first | rfl | trivial, HS⟩
            case measure => simp [intOf]; omega
          | true =>
            obtain ⟨d, hd⟩ : ∃ d, (y != (k : Int)) = d := ⟨_, rfl⟩
            rw [hd] at HS
            cases d
            · go_wp2
              go_roundw
              case rel => exact ⟨m + 1, false, by omega, by go_num, by first | rfl | trivial, by first | rfl | trivial, HS⟩
              case measure => simp [intOf]; omega
            · go_wp2
              go_roundw
              case rel => exact ⟨m + 1, true, by omega, by go_num, by first | rfl | trivial, by first | rfl | trivial, HS⟩
              case measure => simp [intOf]; omega
        · obtain rfl : m = t.length := by omega
          have HN : Kp (bs (z.take k) ++ [.bool p] = bs (z.take (k + 1))) := ⟨by
            have h := HP.out
            rw [List.take_length] at h
            rw [List.take_add_one, bs, bs, List.map_append, HZK.out, h]
            rfl⟩
          clear c0
          go_wp2_with (at_builtin; refine wpList_append_own _ rfl _ _ 28 rfl w.heap.size 4 i0 (.bool false) 1 1 Tryd.underlying28 hi hz0 hz1 hz2 rfl (by decide) _ _ _ rfl (HO.out.alloc _) ⟨wr.heap.size, 0, none⟩ 1 1 [.bool p] rfl rfl (cell_one_new _ _ _) (by simp [Value.oneCell']) (by unfold maxLen; omega) (by omega) (by simp; omega) ?_; intro v' w9 hown' hgrow _)
          go_roundw
          case rel => exact ⟨k + 1, by omega, by go_num, ⟨below_own (below_al HB.out _) (Nat.le_refl _) (HO.out.alloc _) hgrow⟩, ⟨by rw [← HN.out]; exact hown'⟩⟩
          case measure => simp [intOf]; omega
    · obtain rfl : k = x.length := by omega
      go_wp2
      go_ret
      refine ⟨_, rfl, ⟨?_⟩, HB.out⟩
      have h := HO.out
      rw [← HZL.out, List.take_length] at h
      rw [HZL.out] at h ⊢
      exact h

/-- One more is taken: it is pending, and wasn't taken. -/
def stepR (x : List Bool) (q : List Int) (y : Int) : List Int := if (hasB x y && outB q y) = true then q ++ [y] else q
def takeR (x : List Bool) (ls : List Int) : List Int := ls.foldl (stepR x) []
theorem takeR_succ (x : List Bool) (ls : List Int) (k : Nat) (h : k < ls.length) : takeR x (ls.take (k + 1)) = stepR x (takeR x (ls.take k)) ls[k] := by
  rw [takeR, List.take_succ_eq_append_getElem h, List.foldl_append]
  rfl
theorem hasB_nat (x : List Bool) (j : Nat) : hasB x j = x.getD j false := by
  rw [hasB]
  by_cases h : j < x.length
  · rw [decide_eq_true (by omega)]; simp
  · rw [decide_eq_false (by omega), Bool.false_and, List.getD_eq_getElem?_getD, List.getElem?_eq_none (by omega)]; rfl
theorem hasB_off (x : List Bool) (j : Nat) (y : Int) : hasB (offB x j) y = (hasB x y && (y != (j : Int))) := by
  by_cases hy : 0 ≤ y
  · obtain ⟨k, rfl⟩ := Int.eq_ofNat_of_zero_le hy
    rw [hasB_nat, hasB_nat, offB, List.getD_eq_getElem?_getD, List.getD_eq_getElem?_getD, List.getElem?_set]
    by_cases hjk : j = k
    · subst hjk
      have h1 : (((j : Nat) : Int) != (j : Int)) = false := by simp
      rw [if_pos rfl, h1, Bool.and_false]
      by_cases h2 : j < x.length <;> simp [h2]
    · have h1 : (((k : Nat) : Int) != (j : Int)) = true := by rw [bne_iff_ne]; omega
      rw [if_neg hjk, h1, Bool.and_true]
  · rw [hasB, hasB, decide_eq_false (by omega), decide_eq_false (by omega)]; rfl
theorem outB_snoc (q : List Int) (y z : Int) : outB (q ++ [z]) y = (outB q y && (z != y)) := by simp [outB]
def TI (x : List Bool) (p : List Bool × List Int) : Prop := p.1.length = x.length ∧ ∀ y, hasB p.1 y = (hasB x y && outB p.2 y)
theorem TI.step {x : List Bool} {p : List Bool × List Int} (h : TI x p) (y : Int) : TI x (stepT p y) ∧ (stepT p y).2 = stepR x p.2 y := by
  rw [stepT, stepR, ← h.2 y]
  by_cases hh : hasB p.1 y = true
  · rw [if_pos hh, if_pos hh]
    have hy : 0 ≤ y := by
      simp only [hasB, Bool.and_eq_true, decide_eq_true_eq] at hh
      exact hh.1.1
    refine ⟨⟨by rw [offB, List.length_set]; exact h.1, fun z => ?_⟩, rfl⟩
    rw [hasB_off, h.2 z, outB_snoc, show ((y.toNat : Nat) : Int) = y by omega, show (z != y) = (y != z) by rw [Bool.eq_iff_iff, bne_iff_ne, bne_iff_ne]; exact ⟨Ne.symm, Ne.symm⟩, Bool.and_assoc]
  · rw [if_neg hh, if_neg hh]
    exact ⟨h, rfl⟩
theorem TI.all {x : List Bool} (ls : List Int) : ∀ {p : List Bool × List Int}, TI x p → TI x (ls.foldl stepT p) ∧ (ls.foldl stepT p).2 = ls.foldl (stepR x) p.2 := by
  induction ls with
  | nil => exact fun h => ⟨h, rfl⟩
  | cons y ls ih =>
    intro p h
    obtain ⟨h1, h2⟩ := h.step y
    rw [List.foldl_cons, List.foldl_cons, ← h2]
    exact ih h1
theorem takeT_start (x : List Bool) : TI x (x, []) := ⟨rfl, fun y => by simp [outB]⟩
theorem takeT_inv (x : List Bool) (ls : List Int) : TI x (takeT x ls) := (TI.all ls (takeT_start x)).1
theorem takeT_ref (x : List Bool) (ls : List Int) : (takeT x ls).2 = takeR x ls := (TI.all ls (takeT_start x)).2
theorem takeT_without (x : List Bool) (ls : List Int) : (takeT x ls).1 = withoutB x (takeT x ls).2 := by
  obtain ⟨h1, h2⟩ := takeT_inv x ls
  refine List.ext_getElem (by rw [withoutB_len, h1]) fun k h3 h4 => ?_
  have h5 := h2 k
  rw [hasB_nat, hasB_nat] at h5
  rw [h1] at h3
  simp only [withoutB, List.getElem_map, List.getElem_range]
  rw [← h5]
  simp [List.getD_eq_getElem?_getD, h1, h3]
theorem takeR_len (x : List Bool) (ls : List Int) : (takeR x ls).length ≤ ls.length := by
  have h : ∀ (ls : List Int) (q : List Int), (ls.foldl (stepR x) q).length ≤ q.length + ls.length := by
    intro ls
    induction ls with
    | nil => intro q; simp
    | cons y ls ih =>
      intro q
      refine Nat.le_trans (ih _) ?_
      rw [stepR]
      split <;> simp <;> omega
  simpa [takeR] using h ls []
end Go.Proofs.YtimikgencnkcnabDoor

/- Contracts of package defect: numbers that are words; windows that cross. -/
import Derived.Test.YtmidcnfmphlneaaDef2
namespace Go.Proofs.Ytmidcnfmphlneaa
open Go.RowKit
set_option linter.unusedSimpArgs false
set_option linter.unusedVariables false

def wordB (n : Int) : Bool := inB n 0 4294967295
set_option maxRecDepth 100000 in
set_option maxHeartbeats 1000000 in
theorem small_any (v : Value) (l : List Int) (b : Bool) (hb : l.all wordB = b) (hl : l.length ≤ 5000) (w : World) (h : RowAt w 1 v l.length (l.map (Value.int .i64))) : Calls Try.prog 99 #[v] w fun e w' => e = .returned (.bool b) ∧ Below w.heap.size w w' := by
  subst hb
  obtain ⟨a, ca, rfl, h3, h4⟩ := h.shape
  have H1 := Kp.mk h
  clear h
  go_enter Try.func99, Try.ntmps99
  go_wp2_with fail
  go_loopw [7] (fun i wr => ∃ k : Nat, k ≤ l.length ∧ i = .int .i64 k ∧ Kp (Below w.heap.size w wr) ∧ Kp ((l.take k).all wordB = true)) (fun i wr => l.length - (intOf i).toNat)
  case atStart => exact ⟨0, Nat.zero_le _, rfl, ⟨Below.refl _ _⟩, ⟨rfl⟩⟩
  case round =>
    obtain ⟨k, hk, rfl, HB, HN⟩ := hrel
    by_cases hlt : k < l.length
    · obtain ⟨g, o, rfl, hg, hc⟩ := H1.out.at (by omega)
      obtain ⟨x, hx⟩ : ∃ x, l[k] = x := ⟨_, rfl⟩
      have c0 : wr.cell? ⟨g, o + k, none⟩ = some (.int .i64 x) := (HB.out.cell (p := ⟨g, o + k, none⟩) hg).trans ((hc k (by omega)).trans (by simp [hlt, hx]))
      have HA : Kp ((l.take (k + 1)).all wordB = ((l.take k).all wordB && wordB x)) := ⟨by rw [List.take_succ_eq_append_getElem hlt, List.all_append, hx]; simp⟩
      have HX : Kp (x ∈ l) := ⟨hx ▸ List.getElem_mem hlt⟩
      clear hc hx
      cases hp : wordB x with
      | true =>
        go_wp2_with fail
        refine (within_any x 0 4294967295 true hp _).mono ?_
        rintro e w1 ⟨rfl, hb1⟩
        have HB1 := Kp.mk (below_call HB.out hb1)
        have HN1 : Kp ((l.take (k + 1)).all wordB = true) := ⟨by rw [HA.out, HN.out, hp]; rfl⟩
        clear hb1
        go_wp2
        go_roundw
        case rel => exact ⟨k + 1, by omega, by go_num, HB1, HN1⟩
        case measure => simp [intOf]; omega
      | false =>
        go_wp2_with fail
        refine (within_any x 0 4294967295 false hp _).mono ?_
        rintro e w1 ⟨rfl, hb1⟩
        have HB1 := Kp.mk (below_call HB.out hb1)
        clear hb1
        go_wp2
        go_ret
        exact ⟨ret_bool (by
          rw [eq_comm, ← Bool.not_eq_true]
          intro h
          have := List.all_eq_true.1 h x HX.out
          rw [hp] at this
          exact Bool.noConfusion this), HB1.out⟩
    · obtain rfl : k = l.length := by omega
      have HN' := HN.out
      rw [List.take_length] at HN'
      have HN2 := Kp.mk HN'
      clear HN'
      go_wp2
      go_ret
      exact ⟨ret_bool HN2.out.symm, HB.out⟩

/-- A window starts ahead of where the one ahead of it ends. -/
def pairB (a b : Win) : Bool := wordB a.start && wordB a.len && wordB b.start && decide (b.start < a.start + a.len)
def crossK (l : List Win) (k : Nat) : Bool := (List.range k).any fun i => decide (0 < i) && pairB (l.getD (i - 1) default) (l.getD i default)
def crossB (l : List Win) : Bool := crossK l l.length
theorem crossK_succ (l : List Win) (k : Nat) : crossK l (k + 1) = (crossK l k || (decide (0 < k) && pairB (l.getD (k - 1) default) (l.getD k default))) := by
  rw [crossK, List.range_succ, List.any_append]; simp [crossK]
theorem crossK_one (l : List Win) : crossK l 1 = false := by simp [crossK]
theorem crossK_mono {l : List Win} {k : Nat} (h : crossK l k = true) (n : Nat) (hn : k ≤ n) : crossK l n = true := by
  simp only [crossK, List.any_eq_true, List.mem_range] at h ⊢
  obtain ⟨i, hi, hp⟩ := h
  exact ⟨i, by omega, hp⟩
theorem small3 (a b c : Int) : [a, b, c].all wordB = (wordB a && wordB b && wordB c) := by simp [Bool.and_assoc]
/-- A row of three numbers, newly made. -/
theorem row_new3 (w : World) (a b c : Int) : RowAt (w.alloc (.cells #[.int .i64 a, .int .i64 b, .int .i64 c] 3)) 1 (.slice (some ⟨w.heap.size, 0, none⟩) 3 3) [a, b, c].length ([a, b, c].map (Value.int .i64)) := by
  refine ⟨rfl, .inr ⟨w.heap.size, 0, 3, rfl, Nat.le_refl _, by decide, by simp, fun j hj => ?_⟩⟩
  rw [cell_blk (blk_new w _)]
  simp

set_option maxRecDepth 100000 in
set_option maxHeartbeats 4000000 in
theorem crossed0_any (cv : Value) (C : Cfg) (hw : C.w0.length ≤ 200) (w : World) (h : CfgAt w cv C) : Calls Try.prog 87 #[cv, .int .i64 0] w fun e w' => e = .returned (.bool (crossB C.w0)) ∧ Below w.heap.size w w' := by
  obtain ⟨ho, pa, pc, ca, cc, a0, c0, a1, c1, rfl, bp, bc, b0, b1, hp, hc, hw0, hw1⟩ := h
  have H1 := Kp.mk hw0
  clear hp hc hw0 hw1
  obtain ⟨l, hl⟩ : ∃ l, C.w0 = l := ⟨_, rfl⟩
  rw [hl] at H1 hw ⊢
  go_enter Try.func87, Try.ntmps87
  go_wp2_with fail
  try rw [hl]
  go_loopw [6] (fun i wr => ∃ k : Nat, 1 ≤ k ∧ (k ≤ l.length ∨ k = 1) ∧ i = .int .i64 k ∧ Kp (Below w.heap.size w wr) ∧ Kp (crossK l k = false)) (fun i wr => l.length - (intOf i).toNat)
  case atStart => exact ⟨1, Nat.le_refl _, .inr rfl, rfl, ⟨below_al (Below.refl _ _) _⟩, ⟨crossK_one l⟩⟩
  case round =>
    obtain ⟨k, hk1, hk, rfl, HB, HN⟩ := hrel
    by_cases hlt : k < l.length
    · obtain ⟨g, o, rfl, hg, hcc⟩ := H1.out.at (by omega)
      obtain ⟨m, hm⟩ : ∃ m, k = m + 1 := ⟨k - 1, by omega⟩
      have hml : m < l.length := by omega
      obtain ⟨u, hu⟩ : ∃ u, l[m] = u := ⟨_, rfl⟩
      obtain ⟨z, hz⟩ : ∃ z, l[k] = z := ⟨_, rfl⟩
      have hcu : ∀ j, j < 3 → wr.cell? ⟨g, o + m * 3 + j, none⟩ = (winC u)[j]? := fun j hj => by
        have h1 := hcc (m * 3 + j) (by omega)
        rw [flat_at winC 3 winC_len l m j hml hj, hu] at h1
        rw [Nat.add_assoc]
        exact (HB.out.cell (p := ⟨g, o + (m * 3 + j), none⟩) hg).trans h1
      have hcz : ∀ j, j < 3 → wr.cell? ⟨g, o + k * 3 + j, none⟩ = (winC z)[j]? := fun j hj => by
        have h1 := hcc (k * 3 + j) (by omega)
        rw [flat_at winC 3 winC_len l k j (by omega) hj, hz] at h1
        rw [Nat.add_assoc]
        exact (HB.out.cell (p := ⟨g, o + (k * 3 + j), none⟩) hg).trans h1
      have e0 : wr.cell? ⟨g, o + m * 3, none⟩ = some (.int .i64 u.part) := hcu 0 (by omega)
      have e1 : wr.cell? ⟨g, o + m * 3 + 1, none⟩ = some (.int .i64 u.start) := hcu 1 (by omega)
      have e2 : wr.cell? ⟨g, o + m * 3 + 2, none⟩ = some (.int .i64 u.len) := hcu 2 (by omega)
      have e3 : wr.cell? ⟨g, o + k * 3 + 1, none⟩ = some (.int .i64 z.start) := hcz 1 (by omega)
      have HS : Kp (crossK l (k + 1) = (crossK l k || pairB u z)) := ⟨by
        have h1 : k - 1 = m := by omega
        rw [crossK_succ, decide_eq_true (by omega), Bool.true_and, List.getD_eq_getElem?_getD, List.getD_eq_getElem?_getD, List.getElem?_eq_getElem hlt, h1, List.getElem?_eq_getElem hml, Option.getD_some, Option.getD_some, hu, hz]⟩
      have hgw : g < wr.heap.size := Nat.lt_of_lt_of_le hg HB.out.size
      have s1 : (k : Int) - 1 = (m : Int) := by omega
      have s2 : IntKind.i64.wrap ((k : Int) - 1) = (m : Int) := by rw [s1]; exact IntWalk.i64_in _ (by omega)
      have s4 : (0 : Int) ≤ (m : Int) := by omega
      have s5 : (m : Int) < (l.length : Int) := by omega
      have s8 : IntKind.i64.wrap (m : Int) = (m : Int) := IntWalk.i64_in _ (by omega)
      clear hm s1
      have s6 : (0 : Int) ≤ (k : Int) := by omega
      have s7 : (k : Int) < (l.length : Int) := by omega
      clear hcu hcz hcc hu hz
      go_wp2_with fail
      go_region_held3 (fun w' : World => Below (wr).heap.size (wr) w' ∧ ∀ b o, b < (wr).heap.size → w'.cell? ⟨b, o, none⟩ = (wr).cell? ⟨b, o, none⟩) (first | exact old_drew _ | (refine old_of ?_; repeat (first | exact Below.refl _ _ | apply below_dr | apply below_al)) | exact old_call (by assumption) hb) (fail)
      have hb := And.left ‹Below wr.heap.size wr _ ∧ _›
      have hb2 : Below w.heap.size w (wr.alloc (.cells #[.int .i64 u.part, .int .i64 u.start, .int .i64 u.len] 65)).drew := below_dr (below_al HB.out _)
      have k1 : (wr.alloc (.cells #[.int .i64 u.part, .int .i64 u.start, .int .i64 u.len] 65)).drew.heap[wr.heap.size]? = some (.cells #[.int .i64 u.part, .int .i64 u.start, .int .i64 u.len] 65 (0, 0)) := blk_new wr _
      have HB1 := Kp.mk hb2
      have K1 := Kp.mk k1
      clear hb hb2 k1 e0 e1 e2 e3
      generalize (wr.alloc (.cells #[.int .i64 u.part, .int .i64 u.start, .int .i64 u.len] 65)).drew = W1 at HB1 K1 ⊢
      generalize wr.heap.size = B at K1 hgw ⊢
      have f1 : W1.cell? ⟨B, 1, none⟩ = some (.int .i64 u.start) := (cell_blk K1.out 1).trans rfl
      have f2 : W1.cell? ⟨B, 2, none⟩ = some (.int .i64 u.len) := (cell_blk K1.out 2).trans rfl
      have l1 := blk_lt K1.out
      obtain ⟨d, hd⟩ : ∃ d, [u.start, u.len, z.start].all wordB = d := ⟨_, rfl⟩
      have HD := Kp.mk hd
      clear hd
      go_wp2_with fail
      refine (small_any _ [u.start, u.len, z.start] d HD.out (by simp) _ (row_new3 _ _ _ _)).mono ?_
      rintro e w2 ⟨rfl, hb2⟩
      have HB2 := Kp.mk (below_call (below_al HB1.out _) hb2)
      have K2 : Kp (w2.heap[B]? = some (.cells #[.int .i64 u.part, .int .i64 u.start, .int .i64 u.len] 65 (0, 0))) := ⟨blk_below (blk_al K1.out _) hb2⟩
      have f3 : w2.cell? ⟨B, 1, none⟩ = some (.int .i64 u.start) := (cell_blk K2.out 1).trans rfl
      have f4 : w2.cell? ⟨B, 2, none⟩ = some (.int .i64 u.len) := (cell_blk K2.out 2).trans rfl
      have l2 := blk_lt K2.out
      clear hb2 f1 f2 l1
      cases d with
      | false =>
        have HP : Kp (pairB u z = false) := ⟨by
          have h := HD.out
          rw [small3] at h
          rw [pairB, h]; rfl⟩
        have HN1 : Kp (crossK l (k + 1) = false) := ⟨by rw [HS.out, HN.out, HP.out]; rfl⟩
        go_wp2
        go_roundw
        case rel => exact ⟨k + 1, by omega, by omega, by go_num, HB2, HN1⟩
        case measure => simp [intOf]; omega
      | true =>
        have hws : wordB u.start = true ∧ wordB u.len = true := by
          have h := HD.out
          rw [small3] at h
          simp only [Bool.and_eq_true] at h
          exact h.1
        have r1 := inB_iff.1 hws.1
        have r2 := inB_iff.1 hws.2
        have HP : Kp (pairB u z = decide (z.start < u.start + u.len)) := ⟨by
          have h := HD.out
          rw [small3] at h
          rw [pairB, h]; rfl⟩
        have t1 : IntKind.i64.wrap (u.start + u.len) = u.start + u.len := IntWalk.i64_in _ (by omega)
        clear hws r1 r2
        by_cases hz : z.start < u.start + u.len
        · have HT : Kp (crossB l = true) := ⟨crossK_mono (k := k + 1) (by rw [HS.out, HP.out, decide_eq_true hz]; simp) _ (by omega)⟩
          go_wp2
          go_ret
          exact ⟨ret_bool HT.out.symm, HB2.out⟩
        · have hz2 : decide (z.start < u.start + u.len) = false := decide_eq_false hz
          have HN1 : Kp (crossK l (k + 1) = false) := ⟨by rw [HS.out, HN.out, HP.out, hz2]; rfl⟩
          go_wp2
          go_roundw
          case rel => exact ⟨k + 1, by omega, by omega, by go_num, HB2, HN1⟩
          case measure => simp [intOf]; omega
    · have HF : Kp (crossB l = false) := ⟨by
        rcases hk with hk | hk
        · obtain rfl : k = l.length := by omega
          exact HN.out
        · subst hk
          rw [← Bool.not_eq_true]
          intro h
          rw [crossK_mono h 1 (by omega)] at HN
          exact Bool.noConfusion HN.out⟩
      have hge : ¬ ((k : Int) < (l.length : Int)) := by omega
      go_wp2
      go_ret
      exact ⟨ret_bool HF.out.symm, HB.out⟩

set_option maxRecDepth 100000 in
set_option maxHeartbeats 4000000 in
theorem crossed1_any (cv : Value) (C : Cfg) (hw : C.w1.length ≤ 200) (w : World) (h : CfgAt w cv C) : Calls Try.prog 87 #[cv, .int .i64 1] w fun e w' => e = .returned (.bool (crossB C.w1)) ∧ Below w.heap.size w w' := by
  obtain ⟨ho, pa, pc, ca, cc, a0, c0, a1, c1, rfl, bp, bc, b0, b1, hp, hc, hw0, hw1⟩ := h
  have H1 := Kp.mk hw1
  clear hp hc hw0 hw1
  obtain ⟨l, hl⟩ : ∃ l, C.w1 = l := ⟨_, rfl⟩
  rw [hl] at H1 hw ⊢
  go_enter Try.func87, Try.ntmps87
  go_wp2_with fail
  try rw [hl]
  go_loopw [6] (fun i wr => ∃ k : Nat, 1 ≤ k ∧ (k ≤ l.length ∨ k = 1) ∧ i = .int .i64 k ∧ Kp (Below w.heap.size w wr) ∧ Kp (crossK l k = false)) (fun i wr => l.length - (intOf i).toNat)
  case atStart => exact ⟨1, Nat.le_refl _, .inr rfl, rfl, ⟨below_al (Below.refl _ _) _⟩, ⟨crossK_one l⟩⟩
  case round =>
    obtain ⟨k, hk1, hk, rfl, HB, HN⟩ := hrel
    by_cases hlt : k < l.length
    · obtain ⟨g, o, rfl, hg, hcc⟩ := H1.out.at (by omega)
      obtain ⟨m, hm⟩ : ∃ m, k = m + 1 := ⟨k - 1, by omega⟩
      have hml : m < l.length := by omega
      obtain ⟨u, hu⟩ : ∃ u, l[m] = u := ⟨_, rfl⟩
      obtain ⟨z, hz⟩ : ∃ z, l[k] = z := ⟨_, rfl⟩
      have hcu : ∀ j, j < 3 → wr.cell? ⟨g, o + m * 3 + j, none⟩ = (winC u)[j]? := fun j hj => by
        have h1 := hcc (m * 3 + j) (by omega)
        rw [flat_at winC 3 winC_len l m j hml hj, hu] at h1
        rw [Nat.add_assoc]
        exact (HB.out.cell (p := ⟨g, o + (m * 3 + j), none⟩) hg).trans h1
      have hcz : ∀ j, j < 3 → wr.cell? ⟨g, o + k * 3 + j, none⟩ = (winC z)[j]? := fun j hj => by
        have h1 := hcc (k * 3 + j) (by omega)
        rw [flat_at winC 3 winC_len l k j (by omega) hj, hz] at h1
        rw [Nat.add_assoc]
        exact (HB.out.cell (p := ⟨g, o + (k * 3 + j), none⟩) hg).trans h1
      have e0 : wr.cell? ⟨g, o + m * 3, none⟩ = some (.int .i64 u.part) := hcu 0 (by omega)
      have e1 : wr.cell? ⟨g, o + m * 3 + 1, none⟩ = some (.int .i64 u.start) := hcu 1 (by omega)
      have e2 : wr.cell? ⟨g, o + m * 3 + 2, none⟩ = some (.int .i64 u.len) := hcu 2 (by omega)
      have e3 : wr.cell? ⟨g, o + k * 3 + 1, none⟩ = some (.int .i64 z.start) := hcz 1 (by omega)
      have HS : Kp (crossK l (k + 1) = (crossK l k || pairB u z)) := ⟨by
        have h1 : k - 1 = m := by omega
        rw [crossK_succ, decide_eq_true (by omega), Bool.true_and, List.getD_eq_getElem?_getD, List.getD_eq_getElem?_getD, List.getElem?_eq_getElem hlt, h1, List.getElem?_eq_getElem hml, Option.getD_some, Option.getD_some, hu, hz]⟩
      have hgw : g < wr.heap.size := Nat.lt_of_lt_of_le hg HB.out.size
      have s1 : (k : Int) - 1 = (m : Int) := by omega
      have s2 : IntKind.i64.wrap ((k : Int) - 1) = (m : Int) := by rw [s1]; exact IntWalk.i64_in _ (by omega)
      have s4 : (0 : Int) ≤ (m : Int) := by omega
      have s5 : (m : Int) < (l.length : Int) := by omega
      have s8 : IntKind.i64.wrap (m : Int) = (m : Int) := IntWalk.i64_in _ (by omega)
      clear hm s1
      have s6 : (0 : Int) ≤ (k : Int) := by omega
      have s7 : (k : Int) < (l.length : Int) := by omega
      clear hcu hcz hcc hu hz
      go_wp2_with fail
      go_region_held3 (fun w' : World => Below (wr).heap.size (wr) w' ∧ ∀ b o, b < (wr).heap.size → w'.cell? ⟨b, o, none⟩ = (wr).cell? ⟨b, o, none⟩) (first | exact old_drew _ | (refine old_of ?_; repeat (first | exact Below.refl _ _ | apply below_dr | apply below_al)) | exact old_call (by assumption) hb) (fail)
      have hb := And.left ‹Below wr.heap.size wr _ ∧ _›
      have hb2 : Below w.heap.size w (wr.alloc (.cells #[.int .i64 u.part, .int .i64 u.start, .int .i64 u.len] 65)).drew := below_dr (below_al HB.out _)
      have k1 : (wr.alloc (.cells #[.int .i64 u.part, .int .i64 u.start, .int .i64 u.len] 65)).drew.heap[wr.heap.size]? = some (.cells #[.int .i64 u.part, .int .i64 u.start, .int .i64 u.len] 65 (0, 0)) := blk_new wr _
      have HB1 := Kp.mk hb2
      have K1 := Kp.mk k1
      clear hb hb2 k1 e0 e1 e2 e3
      generalize (wr.alloc (.cells #[.int .i64 u.part, .int .i64 u.start, .int .i64 u.len] 65)).drew = W1 at HB1 K1 ⊢
      generalize wr.heap.size = B at K1 hgw ⊢
      have f1 : W1.cell? ⟨B, 1, none⟩ = some (.int .i64 u.start) := (cell_blk K1.out 1).trans rfl
      have f2 : W1.cell? ⟨B, 2, none⟩ = some (.int .i64 u.len) := (cell_blk K1.out 2).trans rfl
      have l1 := blk_lt K1.out
      obtain ⟨d, hd⟩ : ∃ d, [u.start, u.len, z.start].all wordB = d := ⟨_, rfl⟩
      have HD := Kp.mk hd
      clear hd
      go_wp2_with fail
      refine (small_any _ [u.start, u.len, z.start] d HD.out (by simp) _ (row_new3 _ _ _ _)).mono ?_
      rintro e w2 ⟨rfl, hb2⟩
      have HB2 := Kp.mk (below_call (below_al HB1.out _) hb2)
      have K2 : Kp (w2.heap[B]? = some (.cells #[.int .i64 u.part, .int .i64 u.start, .int .i64 u.len] 65 (0, 0))) := ⟨blk_below (blk_al K1.out _) hb2⟩
      have f3 : w2.cell? ⟨B, 1, none⟩ = some (.int .i64 u.start) := (cell_blk K2.out 1).trans rfl
      have f4 : w2.cell? ⟨B, 2, none⟩ = some (.int .i64 u.len) := (cell_blk K2.out 2).trans rfl
      have l2 := blk_lt K2.out
      clear hb2 f1 f2 l1
      cases d with
      | false =>
        have HP : Kp (pairB u z = false) := ⟨by
          have h := HD.out
          rw [small3] at h
          rw [pairB, h]; rfl⟩
        have HN1 : Kp (crossK l (k + 1) = false) := ⟨by rw [HS.out, HN.out, HP.out]; rfl⟩
        go_wp2
        go_roundw
        case rel => exact ⟨k + 1, by omega, by omega, by go_num, HB2, HN1⟩
        case measure => simp [intOf]; omega
      | true =>
        have hws : wordB u.start = true ∧ wordB u.len = true := by
          have h := HD.out
          rw [small3] at h
          simp only [Bool.and_eq_true] at h
          exact h.1
        have r1 := inB_iff.1 hws.1
        have r2 := inB_iff.1 hws.2
        have HP : Kp (pairB u z = decide (z.start < u.start + u.len)) := ⟨by
          have h := HD.out
          rw [small3] at h
          rw [pairB, h]; rfl⟩
        have t1 : IntKind.i64.wrap (u.start + u.len) = u.start + u.len := IntWalk.i64_in _ (by omega)
        clear hws r1 r2
        by_cases hz : z.start < u.start + u.len
        · have HT : Kp (crossB l = true) := ⟨crossK_mono (k := k + 1) (by rw [HS.out, HP.out, decide_eq_true hz]; simp) _ (by omega)⟩
          go_wp2
          go_ret
          exact ⟨ret_bool HT.out.symm, HB2.out⟩
        · have hz2 : decide (z.start < u.start + u.len) = false := decide_eq_false hz
          have HN1 : Kp (crossK l (k + 1) = false) := ⟨by rw [HS.out, HN.out, HP.out, hz2]; rfl⟩
          go_wp2
          go_roundw
          case rel => exact ⟨k + 1, by omega, by omega, by go_num, HB2, HN1⟩
          case measure => simp [intOf]; omega
    · have HF : Kp (crossB l = false) := ⟨by
        rcases hk with hk | hk
        · obtain rfl : k = l.length := by omega
          exact HN.out
        · subst hk
          rw [← Bool.not_eq_true]
          intro h
          rw [crossK_mono h 1 (by omega)] at HN
          exact Bool.noConfusion HN.out⟩
      have hge : ¬ ((k : Int) < (l.length : Int)) := by omega
      go_wp2
      go_ret
      exact ⟨ret_bool HF.out.symm, HB.out⟩

set_option maxHeartbeats 1000000 in
theorem idle1_any (x : Win) (b : Nat) (p : Int) (w : World) (h : w.cell? ⟨b, 0, none⟩ = some (.int .i64 p)) (hlt : b < w.heap.size) : Calls Try.prog 100 #[.agg #[.int .i64 x.part, .int .i64 x.start, .int .i64 x.len], .pointer (some ⟨b, 0, none⟩)] w fun e w' => e = .returned (.bool (x.part == p)) ∧ Below w.heap.size w w' := by
  go_enter Try.func100, Try.ntmps100
  go_wp2
  go_ret
  exact ⟨rfl, (by repeat (first | exact Below.refl _ _ | apply below_al))⟩
end Go.Proofs.Ytmidcnfmphlneaa

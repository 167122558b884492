/- Contracts of package fifo, of rows of whole numbers. -/
import Derived.Test.YtimikgencnkcnabRows
import Derived.Test.YtimikgencnkcnabLists
import Derived.BigQuiet
import Derived.Deep.QuietTactic
import Derived.Deep.OwnRows
namespace Go.Proofs.Ytimikgencnkcnab
open Go.RowKit
set_option linter.unusedSimpArgs false
set_option linter.unusedVariables false

def i64s (ws : List Int) : List Value := ws.map (Value.int .i64)
theorem i64s_at (ws : List Int) (i : Nat) (h : i < ws.length) : (i64s ws)[i]? = some (.int .i64 ws[i]) := by simp [i64s, h]
theorem i64s_set (ws : List Int) (i : Nat) (v : Int) : (i64s ws).set i (.int .i64 v) = i64s (ws.set i v) := by simp [i64s, List.map_set]
/-- What is in the ring from 'first' on. -/
def ringL (rs : List Int) (first n : Nat) : List Int := (List.range n).map fun i : Nat => rs.getD ((first + i) % rs.length) 0
theorem ringL_len (rs : List Int) (first n : Nat) : (ringL rs first n).length = n := by simp [ringL]
/-- A row: its head in block B, its ring in block D. -/
structure RingAt (w : World) (B D cap : Nat) (rs : List Int) (first n : Nat) : Prop where
  head : w.heap[B]? = some (.cells #[.slice (some ⟨D, 0, none⟩) cap cap, .int .i64 (first : Int), .int .i64 (n : Int)] 55 (0, 0))
  ring : w.heap[D]? = some (.cells (i64s rs).toArray 3 (0, 0))
  len : rs.length = cap
  pos : 1 ≤ cap
  most : cap ≤ 4096
  lt : first < cap
  le : n ≤ cap
/-- A row that holds q. -/
def QAt (w : World) (B D cap : Nat) (q : List Int) : Prop := ∃ rs first, RingAt w B D cap rs first q.length ∧ q = ringL rs first q.length
theorem RingAt.ne {w : World} {B D cap : Nat} {rs : List Int} {first n : Nat} (h : RingAt w B D cap rs first n) : B ≠ D := fun e => by
  have h1 := h.head
  rw [e, h.ring] at h1
  simp at h1
theorem RingAt.but {S : List Nat} {w w1 : World} {B D cap : Nat} {rs : List Int} {first n : Nat} (h : RingAt w B D cap rs first n) (hb : ButS S w w1) (h1 : B ∉ S) (h2 : D ∉ S) : RingAt w1 B D cap rs first n :=
  ⟨hb.blk h.head h1, hb.blk h.ring h2, h.len, h.pos, h.most, h.lt, h.le⟩
theorem QAt.but {S : List Nat} {w w1 : World} {B D cap : Nat} {q : List Int} (h : QAt w B D cap q) (hb : ButS S w w1) (h1 : B ∉ S) (h2 : D ∉ S) : QAt w1 B D cap q := by
  obtain ⟨rs, first, hr, hq⟩ := h
  exact ⟨rs, first, hr.but hb h1 h2, hq⟩
theorem QAt.below {w w1 : World} {B D cap : Nat} {q : List Int} (h : QAt w B D cap q) (hb : Below w.heap.size w w1) : QAt w1 B D cap q := h.but (S := []) (ButS.of_below hb) (by simp) (by simp)
theorem QAt.lt {w : World} {B D cap : Nat} {q : List Int} (h : QAt w B D cap q) : B < w.heap.size ∧ D < w.heap.size ∧ B ≠ D ∧ q.length ≤ cap ∧ 1 ≤ cap ∧ cap ≤ 4096 := by
  obtain ⟨rs, first, hr, hq⟩ := h
  exact ⟨blk_lt hr.head, blk_lt hr.ring, hr.ne, hr.le, hr.pos, hr.most⟩
theorem ringL_put (rs : List Int) (first n : Nat) (x : Int) (hf : first < rs.length) (hn : n < rs.length) : ringL (rs.set ((first + n) % rs.length) x) first (n + 1) = ringL rs first n ++ [x] := by
  have hj : (first + n) % rs.length < rs.length := Nat.mod_lt _ (by omega)
  simp only [ringL, List.length_set, List.range_succ, List.map_append, List.map_cons, List.map_nil]
  congr 1
  · refine List.map_congr_left fun i hi => ?_
    have hi : i < n := by simpa using hi
    have hne : (first + n) % rs.length ≠ (first + i) % rs.length := by
      rcases Nat.lt_or_ge (first + n) rs.length with h1 | h1
      · rw [Nat.mod_eq_of_lt h1, Nat.mod_eq_of_lt (by omega)]; omega
      · rcases Nat.lt_or_ge (first + i) rs.length with h2 | h2
        · rw [Nat.mod_eq_sub_mod h1, Nat.mod_eq_of_lt (by omega), Nat.mod_eq_of_lt h2]; omega
        · rw [Nat.mod_eq_sub_mod h1, Nat.mod_eq_of_lt (by omega), Nat.mod_eq_sub_mod h2, Nat.mod_eq_of_lt (by omega)]; omega
    simp [List.getD, List.getElem?_set, hne]
  · simp [List.getD, List.getElem?_set, hj]
theorem ringL_take (rs : List Int) (first n : Nat) (hf : first < rs.length) (hn : n < rs.length) : ringL rs first (n + 1) = rs.getD first 0 :: ringL (rs.set first 0) ((first + 1) % rs.length) n := by
  simp only [ringL, List.length_set, List.range_succ_eq_map, List.map_cons, List.map_map, Nat.add_zero, Nat.mod_eq_of_lt hf]
  congr 1
  refine List.map_congr_left fun i hi => ?_
  have hi : i < n := by simpa using hi
  have he : ((first + 1) % rs.length + i) % rs.length = (first + (i + 1)) % rs.length := by
    rw [Nat.mod_add_mod]; congr 1; omega
  have hne : first ≠ (first + (i + 1)) % rs.length := by
    rcases Nat.lt_or_ge (first + (i + 1)) rs.length with h1 | h1
    · rw [Nat.mod_eq_of_lt h1]; omega
    · rw [Nat.mod_eq_sub_mod h1, Nat.mod_eq_of_lt (by omega)]; omega
  simp [Function.comp, he, List.getD, List.getElem?_set, hne]

theorem Try.infoInt : (Try.prog.info? 3).map (fun i => (i.zero, i.size, i.bytes)) = some (some (.int .i64 0), 1, 8) := by kernel_rfl
theorem madeCells_rep (z : Value) (n : Nat) : madeCells #[z] n = (List.replicate n z).toArray := by
  have h := toList_madeCells_one z n
  rw [← h]

set_option maxHeartbeats 400000 in
theorem fifoNew_bad (n : Int) (hn : n < 1 ∨ 4096 < n) (w : World) : Calls Try.prog 13 #[.int .i64 n] w fun e w' => e = .returned (.tuple #[.pointer none, .int .i64 7]) ∧ w' = w := by
  by_cases h0 : n < 1
  · go_enter Try.func13, Try.ntmps13
    go_wp2
    go_ret2
    exact ⟨rfl, rfl⟩
  · have h1 : 4096 < n := by omega
    go_enter Try.func13, Try.ntmps13
    go_wp2
    go_ret2
    exact ⟨rfl, rfl⟩

set_option maxHeartbeats 400000 in
theorem fifoNew_any (n : Nat) (h1 : 1 ≤ n) (hn : n ≤ 4096) (w : World) : Calls Try.prog 13 #[.int .i64 n] w fun e w' =>
    ∃ B D, e = .returned (.tuple #[.pointer (some ⟨B, 0, none⟩), .int .i64 0]) ∧ Kp (QAt w' B D n []) ∧ Below w.heap.size w w' ∧ w.heap.size ≤ B ∧ w.heap.size ≤ D := by
  have hmk := fun w => run_make_row' (P := Try.prog) 22 3 (.int .i64 0) 8 Try.underlying22 Try.infoInt rfl .i64 .i64 n (by omega) (by omega) w
  go_enter Try.func13, Try.ntmps13
  go_wp2
  go_ret2
  refine ⟨_, _, rfl, ⟨⟨List.replicate n 0, 0, ⟨?_, ?_, by simp, h1, hn, by omega, by simp⟩, rfl⟩⟩, below_al (below_al (Below.refl _ _) _) _, by simp, Nat.le_refl _⟩
  · exact blk_at (w := w.alloc _) (by simp) _
  · rw [madeCells_rep]
    refine blk_al ?_ _
    rw [i64s, List.map_replicate]
    exact blk_new w _

set_option maxHeartbeats 400000 in
theorem fifoLen_any (B D cap : Nat) (q : List Int) (w : World) (h : QAt w B D cap q) : Calls Try.prog 18 #[.pointer (some ⟨B, 0, none⟩)] w fun e w' => e = .returned (.int .i64 q.length) ∧ w' = w := by
  obtain ⟨rs, first, hr, hq⟩ := h
  have c2 : w.cell? ⟨B, 2, none⟩ = some (.int .i64 (q.length : Int)) := (cell_blk hr.head 2).trans rfl
  clear hr hq
  go_enter Try.func18, Try.ntmps18
  go_wp2
  go_ret
  exact ⟨rfl, rfl⟩

set_option maxHeartbeats 400000 in
theorem fifoAt_any (B D cap first i j : Nat) (hj : (first + i) % cap = j) (w : World) (hc : 1 ≤ cap) (hc2 : cap ≤ 4096) (hf : first < cap) (hi : i ≤ 4096) (h0 : w.cell? ⟨B, 0, none⟩ = some (.slice (some ⟨D, 0, none⟩) cap cap)) (h1 : w.cell? ⟨B, 1, none⟩ = some (.int .i64 (first : Int))) :
    Calls Try.prog 21 #[.pointer (some ⟨B, 0, none⟩), .int .i64 (i : Int)] w fun e w' => e = .returned (.int .i64 (j : Int)) ∧ ∃ n, w' = w.drewN n := by
  subst hj
  have hw1 : IntKind.i64.wrap ((first : Int) + (i : Int)) = (first : Int) + (i : Int) := IntWalk.i64_in _ (by omega)
  have hp : (0 : Int) ≤ (first : Int) + (i : Int) := by omega
  have hz : ((cap : Int) == 0) = false := by rw [beq_eq_false_iff_ne]; omega
  go_enter Try.func21, Try.ntmps21
  go_wp2_with fail
  go_quiet (fail)
  go_wp2
  go_ret
  exact ⟨rfl, _, rfl⟩

set_option maxHeartbeats 400000 in
theorem fifoPut_full (B D cap : Nat) (q : List Int) (x : Int) (w : World) (h : QAt w B D cap q) (hq : q.length = cap) : Calls Try.prog 14 #[.pointer (some ⟨B, 0, none⟩), .int .i64 x] w fun e w' => e = .returned (.int .i64 2) ∧ Below w.heap.size w w' := by
  obtain ⟨rs, first, hr, _⟩ := h
  have c0 : w.cell? ⟨B, 0, none⟩ = some (.slice (some ⟨D, 0, none⟩) cap cap) := (cell_blk hr.head 0).trans rfl
  have c2 : w.cell? ⟨B, 2, none⟩ = some (.int .i64 (cap : Int)) := (cell_blk hr.head 2).trans (by rw [hq]; rfl)
  clear hr hq
  go_enter Try.func14, Try.ntmps14
  go_wp2_with fail
  go_quiet (fail)
  go_wp2
  go_ret
  exact ⟨rfl, below_drN (Below.refl _ _)⟩

set_option maxHeartbeats 1000000 in
theorem fifoPut_room (B D cap : Nat) (q : List Int) (x : Int) (w : World) (h : QAt w B D cap q) (hq : q.length < cap) : Calls Try.prog 14 #[.pointer (some ⟨B, 0, none⟩), .int .i64 x] w fun e w' =>
    e = .returned (.int .i64 0) ∧ ButS [B, D] w w' ∧ Kp (QAt w' B D cap (q ++ [x])) := by
  obtain ⟨rs, first, hr, hql⟩ := h
  obtain ⟨n, hn⟩ : ∃ n, q.length = n := ⟨_, rfl⟩
  rw [hn] at hr hq
  have hj : (first + n) % cap < cap := Nat.mod_lt _ (by omega)
  obtain ⟨j, hjj⟩ : ∃ j, (first + n) % cap = j := ⟨_, rfl⟩
  have hB := blk_lt hr.head
  have hD := blk_lt hr.ring
  have hne := hr.ne
  have hlen := hr.len
  have hpos := hr.pos
  have hmost := hr.most
  have hlt := hr.lt
  have c0 : w.cell? ⟨B, 0, none⟩ = some (.slice (some ⟨D, 0, none⟩) cap cap) := (cell_blk hr.head 0).trans rfl
  have c1 : w.cell? ⟨B, 1, none⟩ = some (.int .i64 (first : Int)) := (cell_blk hr.head 1).trans rfl
  have c2 : w.cell? ⟨B, 2, none⟩ = some (.int .i64 (n : Int)) := (cell_blk hr.head 2).trans rfl
  have c3 : w.cell? ⟨D, j, none⟩ = some (.int .i64 (rs.getD j 0)) := by
    rw [cell_blk hr.ring j, List.getElem?_toArray, i64s_at rs j (by omega)]
    simp [List.getD, show j < rs.length by omega]
  have f2 : w.frozen? ⟨B, 2, none⟩ = false := frozen_blk hr.head 2
  have f3 : w.frozen? ⟨D, j, none⟩ = false := frozen_blk hr.ring j
  have HR := Kp.mk hr
  have HN := Kp.mk hn
  have HJ := Kp.mk hjj
  have HQ := Kp.mk hql
  have HL := Kp.mk hlen
  have hne' : D ≠ B := Ne.symm hne
  have hjc : j < cap := by rw [← hjj]; exact hj
  have hnc : (n == cap) = false := by rw [beq_eq_false_iff_ne]; omega
  have hnc2 : ((n : Int) == (cap : Int)) = false := by rw [beq_eq_false_iff_ne]; omega
  have hn4 : n ≤ 4096 := by omega
  clear hr hn hj hlen hql hjj
  go_enter Try.func14, Try.ntmps14
  go_wp2_with fail
  go_quiet (fail)
  go_wp2_with fail
  go_region_held3 (fun w' : World => w'.cell? ⟨B, 0, none⟩ = some (.slice (some ⟨D, 0, none⟩) cap cap) ∧ w'.cell? ⟨B, 1, none⟩ = some (.int .i64 (first : Int)) ∧ w'.cell? ⟨B, 2, none⟩ = some (.int .i64 (n : Int))) (first | exact ⟨c0, c1, c2⟩ | (simp [*, World.cell?_setCell_far]; done)) ((go_at_call 21; refine (fifoAt_any B D cap first n j HJ.out _ hpos hmost hlt hn4 (by exact c0) (by exact c1)).mono ?_; rintro e w1 ⟨rfl, nq, rfl⟩))
  go_wp2
  go_ret
  refine ⟨rfl, (((ButS.refl _ _).drN).set (by simp) _).set (by simp) _, ⟨⟨rs.set j x, first, ⟨?_, ?_, by rw [List.length_set]; exact HL.out, hpos, hmost, hlt, ?_⟩, ?_⟩⟩⟩
  · have k1 := blk_set (blk_set_ne (p := ⟨D, j, none⟩) (blk_drN (n := 0) HR.out.head) hne (.int .i64 x)) 2 (.int .i64 ((n : Int) + 1))
    refine k1.trans ?_
    rw [List.length_append, HN.out]
    rfl
  · have k2 := blk_set (blk_drN (n := 0) HR.out.ring) j (.int .i64 x)
    rw [List.setIfInBounds_toArray, i64s_set] at k2
    exact blk_set_ne (p := ⟨B, 2, none⟩) k2 hne' _
  · rw [List.length_append, HN.out]; simp; omega
  · rw [List.length_append, HN.out]
    have h1 := ringL_put rs first n x (by rw [HL.out]; exact hlt) (by rw [HL.out]; exact hq)
    rw [HL.out, HJ.out] at h1
    have h2 := HQ.out
    rw [HN.out] at h2
    show q ++ [x] = ringL (rs.set j x) first (n + 1)
    rw [h1, ← h2]

set_option maxHeartbeats 1000000 in
theorem fifoTake_none (B D cap : Nat) (w : World) (h : QAt w B D cap []) : Calls Try.prog 16 #[.pointer (some ⟨B, 0, none⟩)] w fun e w' => e = .returned (.tuple #[.int .i64 0, .int .i64 2]) ∧ w' = w := by
  obtain ⟨rs, first, hr, _⟩ := h
  have c2 : w.cell? ⟨B, 2, none⟩ = some (.int .i64 0) := (cell_blk hr.head 2).trans rfl
  clear hr
  go_enter Try.func16, Try.ntmps16
  go_wp2
  go_ret2
  exact ⟨rfl, rfl⟩

set_option maxHeartbeats 2000000 in
theorem fifoTake_some (B D cap : Nat) (x : Int) (q : List Int) (w : World) (h : QAt w B D cap (x :: q)) : Calls Try.prog 16 #[.pointer (some ⟨B, 0, none⟩)] w fun e w' =>
    e = .returned (.tuple #[.int .i64 x, .int .i64 0]) ∧ ButS [B, D] w w' ∧ Kp (QAt w' B D cap q) := by
  obtain ⟨rs, first, hr, hql⟩ := h
  obtain ⟨m, hm⟩ : ∃ m, q.length = m := ⟨_, rfl⟩
  rw [List.length_cons, hm] at hr hql
  have hB := blk_lt hr.head
  have hD := blk_lt hr.ring
  have hne := hr.ne
  have hlen := hr.len
  have hpos := hr.pos
  have hmost := hr.most
  have hlt := hr.lt
  have hle := hr.le
  rw [ringL_take rs first m (by omega) (by omega)] at hql
  simp only [List.cons.injEq] at hql
  obtain ⟨hx, hq⟩ := hql
  obtain ⟨f', hf'⟩ : ∃ f', (first + 1) % cap = f' := ⟨_, rfl⟩
  have hfc : f' < cap := by rw [← hf']; exact Nat.mod_lt _ (by omega)
  have c0 : w.cell? ⟨B, 0, none⟩ = some (.slice (some ⟨D, 0, none⟩) cap cap) := (cell_blk hr.head 0).trans rfl
  have c1 : w.cell? ⟨B, 1, none⟩ = some (.int .i64 (first : Int)) := (cell_blk hr.head 1).trans rfl
  have c2 : w.cell? ⟨B, 2, none⟩ = some (.int .i64 ((m : Int) + 1)) := (cell_blk hr.head 2).trans rfl
  have c3 : w.cell? ⟨D, first, none⟩ = some (.int .i64 x) := by
    rw [cell_blk hr.ring first, List.getElem?_toArray, i64s_at rs first (by omega), hx]
    simp [List.getD, show first < rs.length by omega]
  have f1 : w.frozen? ⟨B, 1, none⟩ = false := frozen_blk hr.head 1
  have f2 : w.frozen? ⟨B, 2, none⟩ = false := frozen_blk hr.head 2
  have f3 : w.frozen? ⟨D, first, none⟩ = false := frozen_blk hr.ring first
  have HR := Kp.mk hr
  have HM := Kp.mk hm
  have HF := Kp.mk hf'
  have HQ := Kp.mk hq
  have HL := Kp.mk hlen
  have hne' : D ≠ B := Ne.symm hne
  have hm1 : ((m : Int) + 1 == 0) = false := by rw [beq_eq_false_iff_ne]; omega
  have hm4 : m ≤ 4096 := by omega
  clear hr hm hf' hq hlen hx
  go_enter Try.func16, Try.ntmps16
  go_wp2_with fail
  go_quiet (fail)
  go_wp2_with fail
  go_region_held3 (fun w' : World => w'.cell? ⟨B, 0, none⟩ = some (.slice (some ⟨D, 0, none⟩) cap cap) ∧ w'.cell? ⟨B, 1, none⟩ = some (.int .i64 (first : Int)) ∧ w'.cell? ⟨B, 2, none⟩ = some (.int .i64 ((m : Int) + 1))) (first | exact ⟨c0, c1, c2⟩ | (simp [*, World.cell?_setCell_far]; done)) (fail)
  go_wp2_with fail
  refine (fifoAt_any B D cap first 1 f' HF.out _ hpos hmost hlt (by omega) (by rw [World.cell?_setCell_far _ _ _ _ hne']; exact c0) (by rw [World.cell?_setCell_far _ _ _ _ hne']; exact c1)).mono ?_
  rintro e w1 ⟨rfl, nq, rfl⟩
  go_wp2
  go_ret2
  refine ⟨rfl, (((((ButS.refl _ _).drN).set (by simp) _).drN).set (by simp) _).set (by simp) _, ⟨⟨rs.set first 0, f', ⟨?_, ?_, by rw [List.length_set]; exact HL.out, hpos, hmost, hfc, ?_⟩, ?_⟩⟩⟩
  · have k1 := blk_set (blk_set (blk_drN (n := 0) (blk_set_ne (p := ⟨D, first, none⟩) (blk_drN (n := 0) HR.out.head) hne (.int .i64 0))) 1 (.int .i64 (f' : Int))) 2 (.int .i64 (m : Int))
    refine k1.trans ?_
    rw [HM.out]
    rfl
  · have k2 := blk_set (blk_drN (n := 0) HR.out.ring) first (.int .i64 0)
    rw [List.setIfInBounds_toArray, i64s_set] at k2
    exact blk_set_ne (p := ⟨B, 2, none⟩) (blk_set_ne (p := ⟨B, 1, none⟩) (blk_drN (n := 0) k2) hne' _) hne' _
  · rw [HM.out]; omega
  · rw [HM.out]
    have h := HQ.out
    rw [HL.out, HF.out] at h
    exact h

end Go.Proofs.Ytimikgencnkcnab

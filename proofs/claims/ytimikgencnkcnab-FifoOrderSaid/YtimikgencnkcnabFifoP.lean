/- Contracts of package fifo, of rows of pairs of whole numbers (the law FifoOrder). -/
import Derived.Test.YtimikgencnkcnabRows
import Derived.Test.YtimikgencnkcnabLists
import Derived.BigQuiet
import Derived.Deep.QuietTactic
import Derived.Deep.OwnRows
import Derived.Laws.MakeOwn
import Derived.Deep.RegionWith
namespace Go.Proofs.Ytimikgencnkcnab
open Go.RowKit
set_option linter.unusedSimpArgs false
set_option linter.unusedVariables false

theorem ButS.setNew {S : List Nat} {W0 W : World} (h : ButS S W0 W) {p : Addr} (hp : W0.heap.size ≤ p.block) (v : Value) : ButS S W0 (W.setCell p v) :=
  ⟨h.os, h.tape, h.output, by simpa [World.setCell] using h.size, fun k hk hne => (Below.heap_setCell W p v k (by omega)).trans (h.block k hk hne)⟩
def p64s (ws : List (Int × Int)) : List Value := ws.flatMap fun p => [.int .i64 p.1, .int .i64 p.2]
theorem p64s_cons (p : Int × Int) (ws : List (Int × Int)) : p64s (p :: ws) = .int .i64 p.1 :: .int .i64 p.2 :: p64s ws := rfl
theorem p64s_len (ws : List (Int × Int)) : (p64s ws).length = ws.length * 2 := by
  induction ws with
  | nil => rfl
  | cons p ws ih => rw [p64s_cons]; simp [ih]; omega
theorem p64s_fst (ws : List (Int × Int)) (j : Nat) (h : j < ws.length) : (p64s ws)[j * 2]? = some (.int .i64 ws[j].1) := by
  induction ws generalizing j with
  | nil => simp at h
  | cons p ws ih =>
    rw [p64s_cons]
    cases j with
    | zero => simp
    | succ j => rw [show (j + 1) * 2 = j * 2 + 1 + 1 by omega, List.getElem?_cons_succ, List.getElem?_cons_succ, ih j (by simpa using h)]; simp
theorem p64s_snd (ws : List (Int × Int)) (j : Nat) (h : j < ws.length) : (p64s ws)[j * 2 + 1]? = some (.int .i64 ws[j].2) := by
  induction ws generalizing j with
  | nil => simp at h
  | cons p ws ih =>
    rw [p64s_cons]
    cases j with
    | zero => simp
    | succ j => rw [show (j + 1) * 2 + 1 = j * 2 + 1 + 1 + 1 by omega, List.getElem?_cons_succ, List.getElem?_cons_succ, ih j (by simpa using h)]; simp
theorem p64s_set (ws : List (Int × Int)) (j : Nat) (a b : Int) (h : j < ws.length) : ((p64s ws).set (j * 2) (.int .i64 a)).set (j * 2 + 1) (.int .i64 b) = p64s (ws.set j (a, b)) := by
  induction ws generalizing j with
  | nil => simp at h
  | cons p ws ih =>
    rw [p64s_cons]
    cases j with
    | zero => simp [p64s_cons]
    | succ j =>
      rw [show (j + 1) * 2 = j * 2 + 1 + 1 by omega, List.set_cons_succ, List.set_cons_succ, List.set_cons_succ, List.set_cons_succ, ih j (by simpa using h)]
      rfl
/-- What is in the ring from 'first' on. -/
def ringP (rs : List (Int × Int)) (first n : Nat) : List (Int × Int) := (List.range n).map fun i : Nat => rs.getD ((first + i) % rs.length) (0, 0)
structure RingPAt (w : World) (B D cap : Nat) (rs : List (Int × Int)) (first n : Nat) : Prop where
  head : w.heap[B]? = some (.cells #[.slice (some ⟨D, 0, none⟩) cap cap, .int .i64 (first : Int), .int .i64 (n : Int)] 52 (0, 0))
  ring : w.heap[D]? = some (.cells (p64s rs).toArray 28 (0, 0))
  len : rs.length = cap
  pos : 1 ≤ cap
  most : cap ≤ 4096
  lt : first < cap
  le : n ≤ cap
def QPAt (w : World) (B D cap : Nat) (q : List (Int × Int)) : Prop := ∃ rs first, RingPAt w B D cap rs first q.length ∧ q = ringP rs first q.length
theorem RingPAt.ne {w : World} {B D cap : Nat} {rs : List (Int × Int)} {first n : Nat} (h : RingPAt w B D cap rs first n) : B ≠ D := fun e => by
  have h1 := h.head
  rw [e, h.ring] at h1
  simp only [Option.some.injEq, Obj.cells.injEq] at h1
  exact absurd h1.2.1 (by decide)
theorem RingPAt.but {S : List Nat} {w w1 : World} {B D cap : Nat} {rs : List (Int × Int)} {first n : Nat} (h : RingPAt w B D cap rs first n) (hb : ButS S w w1) (h1 : B ∉ S) (h2 : D ∉ S) : RingPAt w1 B D cap rs first n :=
  ⟨hb.blk h.head h1, hb.blk h.ring h2, h.len, h.pos, h.most, h.lt, h.le⟩
theorem QPAt.but {S : List Nat} {w w1 : World} {B D cap : Nat} {q : List (Int × Int)} (h : QPAt w B D cap q) (hb : ButS S w w1) (h1 : B ∉ S) (h2 : D ∉ S) : QPAt w1 B D cap q := by
  obtain ⟨rs, first, hr, hq⟩ := h
  exact ⟨rs, first, hr.but hb h1 h2, hq⟩
theorem QPAt.below {w w1 : World} {B D cap : Nat} {q : List (Int × Int)} (h : QPAt w B D cap q) (hb : Below w.heap.size w w1) : QPAt w1 B D cap q := h.but (S := []) (ButS.of_below hb) (by simp) (by simp)
theorem QPAt.low {w w1 : World} {B D cap X : Nat} {q : List (Int × Int)} (h : QPAt w B D cap q) (hb : Below X w w1) (h1 : B < X) (h2 : D < X) : QPAt w1 B D cap q := by
  obtain ⟨rs, first, hr, hq⟩ := h
  exact ⟨rs, first, ⟨(hb.block B h1).trans hr.head, (hb.block D h2).trans hr.ring, hr.len, hr.pos, hr.most, hr.lt, hr.le⟩, hq⟩
theorem QPAt.lt {w : World} {B D cap : Nat} {q : List (Int × Int)} (h : QPAt w B D cap q) : B < w.heap.size ∧ D < w.heap.size ∧ B ≠ D ∧ q.length ≤ cap ∧ 1 ≤ cap ∧ cap ≤ 4096 := by
  obtain ⟨rs, first, hr, hq⟩ := h
  exact ⟨blk_lt hr.head, blk_lt hr.ring, hr.ne, hr.le, hr.pos, hr.most⟩
theorem ringP_put (rs : List (Int × Int)) (first n : Nat) (x : Int × Int) (hf : first < rs.length) (hn : n < rs.length) : ringP (rs.set ((first + n) % rs.length) x) first (n + 1) = ringP rs first n ++ [x] := by
  have hj : (first + n) % rs.length < rs.length := Nat.mod_lt _ (by omega)
  simp only [ringP, List.length_set, List.range_succ, List.map_append, List.map_cons, List.map_nil]
  congr 1
  · refine List.map_congr_left fun i hi => ?_
    have hi : i < n := by simpa using hi
    have hne : (first + n) % rs.length ≠ (first + i) % rs.length := by
      rcases Nat.lt_or_ge (first + n) rs.length with h1 | h1
      · rw [Nat.mod_eq_of_lt h1, Nat.mod_eq_of_lt (by omega)]; omega
      · rcases Nat.lt_or_ge (first + i) rs.length with h2 | h2
        · rw [Nat.mod_eq_sub_mod h1, Nat.mod_eq_of_lt (by omega), Nat.mod_eq_of_lt h2]; omega
        · rw [Nat.mod_eq_sub_mod h1, Nat.mod_eq_of_lt (by omega), Nat.mod_eq_sub_mod h2, Nat.mod_eq_of_lt (by omega)]; omega
    simp [List.getD, List.getElem?_set, hne]
  · simp [List.getD, List.getElem?_set, hj]
theorem ringP_take (rs : List (Int × Int)) (first n : Nat) (hf : first < rs.length) (hn : n < rs.length) : ringP rs first (n + 1) = rs.getD first (0, 0) :: ringP (rs.set first (0, 0)) ((first + 1) % rs.length) n := by
  simp only [ringP, List.length_set, List.range_succ_eq_map, List.map_cons, List.map_map, Nat.add_zero, Nat.mod_eq_of_lt hf]
  congr 1
  refine List.map_congr_left fun i hi => ?_
  have hi : i < n := by simpa using hi
  have he : ((first + 1) % rs.length + i) % rs.length = (first + (i + 1)) % rs.length := by
    rw [Nat.mod_add_mod]; congr 1; omega
  have hne : first ≠ (first + (i + 1)) % rs.length := by
    rcases Nat.lt_or_ge (first + (i + 1)) rs.length with h1 | h1
    · rw [Nat.mod_eq_of_lt h1]; omega
    · rw [Nat.mod_eq_sub_mod h1, Nat.mod_eq_of_lt (by omega)]; omega
  simp [Function.comp, he, List.getD, List.getElem?_set, hne]

theorem Try.infoInt2 : (Try.prog.info? 28).map (fun i => (i.zero, i.size, i.bytes)) = some (some (.agg #[.int .i64 0, .int .i64 0]), 2, 16) := by kernel_rfl
theorem run_make_rowK {P : Program} (t e : TypeId) (z : Value) (k bytes : Nat) (ht : P.underlying t = some (.slice e)) (hinfo : (P.info? e).map (fun i => (i.zero, i.size, i.bytes)) = some (some z, k, bytes))
    (kl kc : IntKind) (n : Nat) (hbytes : bytes * n ≤ 281474976710656) (h63 : n ≤ 9223372036854775807) (w : World) :
    (Instr.makeSlice t (.int kl (n : Int)) (.int kc (n : Int))).run P w = .ok (.slice (some ⟨w.heap.size, 0, none⟩) n n) (w.alloc (.cells (madeCells z.cells (n * k)) e)) := by
  obtain ⟨i, hi, hzz⟩ := Option.map_eq_some_iff.1 hinfo
  simp only [Prod.mk.injEq] at hzz
  obtain ⟨hz, hs, hb⟩ := hzz
  have hb' : (i.bytes : Int) * (n : Int) ≤ 281474976710656 := by
    rw [hb]
    have h : ((bytes * n : Nat) : Int) ≤ 281474976710656 := by omega
    rwa [Int.natCast_mul] at h
  have hr := run_make (P := P) w t e i z ht hi hz kl kc n n (by omega) (Int.le_refl _) hb' (by omega)
  simp only [Int.toNat_natCast, hs] at hr
  exact hr
theorem madeCells_two (n : Nat) : (madeCells (Value.agg #[.int .i64 0, .int .i64 0]).cells (n * 2)).toList = p64s (List.replicate n (0, 0)) := by
  refine List.ext_getElem? fun i => ?_
  by_cases hi : i < n * 2
  · obtain ⟨j, rfl | rfl⟩ : ∃ j, i = j * 2 ∨ i = j * 2 + 1 := ⟨i / 2, by omega⟩
    · rw [p64s_fst _ j (by simp; omega)]
      simp [madeCells, hi, Value.cells]
    · rw [p64s_snd _ j (by simp; omega)]
      simp [madeCells, hi, Value.cells]
  · rw [List.getElem?_eq_none (by simp [madeCells]; omega), List.getElem?_eq_none (by rw [p64s_len]; simp; omega)]

set_option maxHeartbeats 400000 in
theorem fifoPNew_any (n : Nat) (h1 : 1 ≤ n) (hn : n ≤ 4096) (w : World) : Calls Try.prog 8 #[.int .i64 n] w fun e w' =>
    ∃ B D, e = .returned (.tuple #[.pointer (some ⟨B, 0, none⟩), .int .i64 0]) ∧ Kp (QPAt w' B D n []) ∧ Below w.heap.size w w' ∧ w.heap.size ≤ B ∧ w.heap.size ≤ D := by
  have hmk := fun w => run_make_rowK (P := Try.prog) 50 28 (.agg #[.int .i64 0, .int .i64 0]) 2 16 Try.underlying50 Try.infoInt2 .i64 .i64 n (by omega) (by omega) w
  go_enter Try.func8, Try.ntmps8
  go_wp2
  go_ret2
  refine ⟨_, _, rfl, ⟨⟨List.replicate n (0, 0), 0, ⟨?_, ?_, by simp, h1, hn, by omega, by simp⟩, rfl⟩⟩, below_al (below_al (Below.refl _ _) _) _, by simp, Nat.le_refl _⟩
  · exact blk_at (w := w.alloc _) (by simp) _
  · refine blk_al ?_ _
    rw [← madeCells_two]
    exact blk_new w _

set_option maxHeartbeats 400000 in
theorem fifoPLen_any (B D cap : Nat) (q : List (Int × Int)) (w : World) (h : QPAt w B D cap q) : Calls Try.prog 11 #[.pointer (some ⟨B, 0, none⟩)] w fun e w' => e = .returned (.int .i64 q.length) ∧ w' = w := by
  obtain ⟨rs, first, hr, hq⟩ := h
  have c2 : w.cell? ⟨B, 2, none⟩ = some (.int .i64 (q.length : Int)) := (cell_blk hr.head 2).trans rfl
  clear hr hq
  go_enter Try.func11, Try.ntmps11
  go_wp2
  go_ret
  exact ⟨rfl, rfl⟩

set_option maxHeartbeats 400000 in
theorem fifoPAt_any (B D cap first i j : Nat) (hj : (first + i) % cap = j) (w : World) (hc : 1 ≤ cap) (hc2 : cap ≤ 4096) (hf : first < cap) (hi : i ≤ 4096) (h0 : w.cell? ⟨B, 0, none⟩ = some (.slice (some ⟨D, 0, none⟩) cap cap)) (h1 : w.cell? ⟨B, 1, none⟩ = some (.int .i64 (first : Int))) :
    Calls Try.prog 20 #[.pointer (some ⟨B, 0, none⟩), .int .i64 (i : Int)] w fun e w' => e = .returned (.int .i64 (j : Int)) ∧ ∃ n, w' = w.drewN n := by
  subst hj
  have hw1 : IntKind.i64.wrap ((first : Int) + (i : Int)) = (first : Int) + (i : Int) := IntWalk.i64_in _ (by omega)
  have hp : (0 : Int) ≤ (first : Int) + (i : Int) := by omega
  have hz : ((cap : Int) == 0) = false := by rw [beq_eq_false_iff_ne]; omega
  go_enter Try.func20, Try.ntmps20
  go_wp2_with fail
  go_quiet (fail)
  go_wp2
  go_ret
  exact ⟨rfl, _, rfl⟩

set_option maxHeartbeats 400000 in
theorem fifoPPut_full (B D cap : Nat) (q : List (Int × Int)) (x y : Int) (w : World) (h : QPAt w B D cap q) (hq : q.length = cap) : Calls Try.prog 9 #[.pointer (some ⟨B, 0, none⟩), .agg #[.int .i64 x, .int .i64 y]] w fun e w' => e = .returned (.int .i64 2) ∧ Below w.heap.size w w' := by
  obtain ⟨rs, first, hr, _⟩ := h
  have hBl := blk_lt hr.head
  have c0 : w.cell? ⟨B, 0, none⟩ = some (.slice (some ⟨D, 0, none⟩) cap cap) := (cell_blk hr.head 0).trans rfl
  have c2 : w.cell? ⟨B, 2, none⟩ = some (.int .i64 (cap : Int)) := (cell_blk hr.head 2).trans (by rw [hq]; rfl)
  clear hr hq
  go_enter Try.func9, Try.ntmps9
  go_wp2_with fail
  go_quiet (fail)
  go_wp2
  go_ret
  exact ⟨rfl, below_drN (below_al (Below.refl _ _) _)⟩

set_option maxHeartbeats 1000000 in
theorem fifoPPut_room (B D cap : Nat) (q : List (Int × Int)) (x y : Int) (w : World) (h : QPAt w B D cap q) (hq : q.length < cap) : Calls Try.prog 9 #[.pointer (some ⟨B, 0, none⟩), .agg #[.int .i64 x, .int .i64 y]] w fun e w' =>
    e = .returned (.int .i64 0) ∧ ButS [B, D] w w' ∧ Kp (QPAt w' B D cap (q ++ [(x, y)])) := by
  obtain ⟨rs, first, hr, hql⟩ := h
  obtain ⟨n, hn⟩ : ∃ n, q.length = n := ⟨_, rfl⟩
  rw [hn] at hr hq
  have hj : (first + n) % cap < cap := Nat.mod_lt _ (by omega)
  obtain ⟨j, hjj⟩ : ∃ j, (first + n) % cap = j := ⟨_, rfl⟩
  have hB := blk_lt hr.head
  have hD := blk_lt hr.ring
  have hne := hr.ne
  have hlen := hr.len
  have hpos := hr.pos
  have hmost := hr.most
  have hlt := hr.lt
  have c0 : w.cell? ⟨B, 0, none⟩ = some (.slice (some ⟨D, 0, none⟩) cap cap) := (cell_blk hr.head 0).trans rfl
  have c1 : w.cell? ⟨B, 1, none⟩ = some (.int .i64 (first : Int)) := (cell_blk hr.head 1).trans rfl
  have c2 : w.cell? ⟨B, 2, none⟩ = some (.int .i64 (n : Int)) := (cell_blk hr.head 2).trans rfl
  have hjl : j < rs.length := by omega
  have c3 : w.cell? ⟨D, j * 2, none⟩ = some (.int .i64 rs[j].1) := by
    rw [cell_blk hr.ring (j * 2), List.getElem?_toArray, p64s_fst rs j hjl]
  have c4 : w.cell? ⟨D, j * 2 + 1, none⟩ = some (.int .i64 rs[j].2) := by
    rw [cell_blk hr.ring (j * 2 + 1), List.getElem?_toArray, p64s_snd rs j hjl]
  have f2 : w.frozen? ⟨B, 2, none⟩ = false := frozen_blk hr.head 2
  have f3 : w.frozen? ⟨D, j * 2, none⟩ = false := frozen_blk hr.ring _
  have f4 : w.frozen? ⟨D, j * 2 + 1, none⟩ = false := frozen_blk hr.ring _
  have HR := Kp.mk hr
  have HN := Kp.mk hn
  have HJ := Kp.mk hjj
  have HQ := Kp.mk hql
  have HL := Kp.mk hlen
  have hne' : D ≠ B := Ne.symm hne
  have hjc : j < cap := by rw [← hjj]; exact hj
  have hnc : (n == cap) = false := by rw [beq_eq_false_iff_ne]; omega
  have hnc2 : ((n : Int) == (cap : Int)) = false := by rw [beq_eq_false_iff_ne]; omega
  have hn4 : n ≤ 4096 := by omega
  have HJL := Kp.mk hjl
  have D0 : Kp ((w.alloc (.cells #[.int .i64 x, .int .i64 y] 28)).cell? ⟨B, 0, none⟩ = some (.slice (some ⟨D, 0, none⟩) cap cap)) := ⟨(cell_blk (blk_al hr.head _) 0).trans rfl⟩
  have hDn : D ≠ w.heap.size := by omega
  have hDn' : w.heap.size ≠ D := by omega
  have hBn : B ≠ w.heap.size := by omega
  have hBn' : w.heap.size ≠ B := by omega
  have D2 : Kp ((w.alloc (.cells #[.int .i64 x, .int .i64 y] 28)).cell? ⟨B, 2, none⟩ = some (.int .i64 (n : Int))) := ⟨(cell_blk (blk_al hr.head _) 2).trans rfl⟩
  have D3 : Kp ((w.alloc (.cells #[.int .i64 x, .int .i64 y] 28)).cell? ⟨w.heap.size, 0, none⟩ = some (.int .i64 x)) := ⟨(cell_blk (blk_new _ _) 0).trans rfl⟩
  have D4 : Kp ((w.alloc (.cells #[.int .i64 x, .int .i64 y] 28)).cell? ⟨w.heap.size, 1, none⟩ = some (.int .i64 y)) := ⟨(cell_blk (blk_new _ _) 1).trans rfl⟩
  have D1 : Kp ((w.alloc (.cells #[.int .i64 x, .int .i64 y] 28)).cell? ⟨B, 1, none⟩ = some (.int .i64 (first : Int))) := ⟨(cell_blk (blk_al hr.head _) 1).trans rfl⟩
  clear hr hn hj hlen hql hjj
  go_enter Try.func9, Try.ntmps9
  go_wp2_with fail
  go_quiet (fail)
  go_wp2_with fail
  go_region_held3 (fun w' : World => w'.cell? ⟨B, 0, none⟩ = some (.slice (some ⟨D, 0, none⟩) cap cap) ∧ w'.cell? ⟨B, 1, none⟩ = some (.int .i64 (first : Int)) ∧ w'.cell? ⟨B, 2, none⟩ = some (.int .i64 (n : Int)) ∧ w'.cell? ⟨w.heap.size, 0, none⟩ = some (.int .i64 x) ∧ w'.cell? ⟨w.heap.size, 1, none⟩ = some (.int .i64 y)) (first | exact ⟨D0.out, D1.out, D2.out, D3.out, D4.out⟩ | (simp [*, World.cell?_setCell_far]; done)) ((go_at_call 20; refine (fifoPAt_any B D cap first n j HJ.out _ hpos hmost hlt hn4 (by exact D0.out) (by exact D1.out)).mono ?_; rintro e w1 ⟨rfl, nq, rfl⟩))
  go_wp2
  go_ret
  refine ⟨rfl, ((((below_drN (below_al (Below.refl _ _) _) |> ButS.of_below).set (by simp) _).set (by simp) _).set (by simp) _), ⟨⟨rs.set j (x, y), first, ⟨?_, ?_, by rw [List.length_set]; exact HL.out, hpos, hmost, hlt, ?_⟩, ?_⟩⟩⟩
  · have k1 := blk_set (blk_set_ne (p := ⟨D, j * 2 + 1, none⟩) (blk_set_ne (p := ⟨D, j * 2, none⟩) (blk_drN (n := 0) (blk_al HR.out.head (.cells #[.int .i64 x, .int .i64 y] 28))) hne (.int .i64 x)) hne (.int .i64 y)) 2 (.int .i64 ((n : Int) + 1))
    refine k1.trans ?_
    rw [List.length_append, HN.out]
    rfl
  · have k2 := blk_set (blk_set (blk_drN (n := 0) (blk_al HR.out.ring (.cells #[.int .i64 x, .int .i64 y] 28))) (j * 2) (.int .i64 x)) (j * 2 + 1) (.int .i64 y)
    rw [List.setIfInBounds_toArray, List.setIfInBounds_toArray, p64s_set rs j x y HJL.out] at k2
    exact blk_set_ne (p := ⟨B, 2, none⟩) k2 hne' _
  · rw [List.length_append, HN.out]; simp; omega
  · rw [List.length_append, HN.out]
    have h1 := ringP_put rs first n (x, y) (by rw [HL.out]; exact hlt) (by rw [HL.out]; exact hq)
    rw [HL.out, HJ.out] at h1
    have h2 := HQ.out
    rw [HN.out] at h2
    show q ++ [(x, y)] = ringP (rs.set j (x, y)) first (n + 1)
    rw [h1, ← h2]

set_option maxHeartbeats 1000000 in
theorem fifoPTake_none (B D cap : Nat) (w : World) (h : QPAt w B D cap []) : Calls Try.prog 10 #[.pointer (some ⟨B, 0, none⟩)] w fun e w' => e = .returned (.tuple #[.agg #[.int .i64 0, .int .i64 0], .int .i64 2]) ∧ Below w.heap.size w w' := by
  obtain ⟨rs, first, hr, _⟩ := h
  have c2 : w.cell? ⟨B, 2, none⟩ = some (.int .i64 0) := (cell_blk hr.head 2).trans rfl
  have hB := blk_lt hr.head
  clear hr
  go_enter Try.func10, Try.ntmps10
  go_wp2
  exact bodyPost_ret (v := .tuple #[.agg #[.int .i64 0, .int .i64 0], .int .i64 2]) (by rw [results_cell_tmp rfl]; simp [go_sem]) rfl ⟨rfl, below_al (below_al (Below.refl _ _) _) _⟩

set_option maxHeartbeats 2000000 in
theorem fifoPTake_some (B D cap : Nat) (x y : Int) (q : List (Int × Int)) (w : World) (h : QPAt w B D cap ((x, y) :: q)) : Calls Try.prog 10 #[.pointer (some ⟨B, 0, none⟩)] w fun e w' =>
    e = .returned (.tuple #[.agg #[.int .i64 x, .int .i64 y], .int .i64 0]) ∧ ButS [B, D] w w' ∧ Kp (QPAt w' B D cap q) := by
  obtain ⟨rs, first, hr, hql⟩ := h
  obtain ⟨m, hm⟩ : ∃ m, q.length = m := ⟨_, rfl⟩
  rw [List.length_cons, hm] at hr hql
  have hB := blk_lt hr.head
  have hD := blk_lt hr.ring
  have hne := hr.ne
  have hlen := hr.len
  have hpos := hr.pos
  have hmost := hr.most
  have hlt := hr.lt
  have hle := hr.le
  rw [ringP_take rs first m (by omega) (by omega)] at hql
  simp only [List.cons.injEq] at hql
  obtain ⟨hx, hq⟩ := hql
  have hfl : first < rs.length := by omega
  obtain ⟨f', hf'⟩ : ∃ f', (first + 1) % cap = f' := ⟨_, rfl⟩
  have hfc : f' < cap := by rw [← hf']; exact Nat.mod_lt _ (by omega)
  have hx' : rs[first] = (x, y) := by rw [hx]; simp [List.getD, hfl]
  have c0 : w.cell? ⟨B, 0, none⟩ = some (.slice (some ⟨D, 0, none⟩) cap cap) := (cell_blk hr.head 0).trans rfl
  have c1 : w.cell? ⟨B, 1, none⟩ = some (.int .i64 (first : Int)) := (cell_blk hr.head 1).trans rfl
  have c2 : w.cell? ⟨B, 2, none⟩ = some (.int .i64 ((m : Int) + 1)) := (cell_blk hr.head 2).trans rfl
  have c3 : w.cell? ⟨D, first * 2, none⟩ = some (.int .i64 x) := by
    rw [cell_blk hr.ring (first * 2), List.getElem?_toArray, p64s_fst rs first hfl, hx']
  have c4 : w.cell? ⟨D, first * 2 + 1, none⟩ = some (.int .i64 y) := by
    rw [cell_blk hr.ring (first * 2 + 1), List.getElem?_toArray, p64s_snd rs first hfl, hx']
  have f1 : w.frozen? ⟨B, 1, none⟩ = false := frozen_blk hr.head 1
  have f2 : w.frozen? ⟨B, 2, none⟩ = false := frozen_blk hr.head 2
  have f3 : w.frozen? ⟨D, first * 2, none⟩ = false := frozen_blk hr.ring _
  have f4 : w.frozen? ⟨D, first * 2 + 1, none⟩ = false := frozen_blk hr.ring _
  have HR := Kp.mk hr
  have HM := Kp.mk hm
  have HF := Kp.mk hf'
  have HQ := Kp.mk hq
  have HL := Kp.mk hlen
  have HFL := Kp.mk hfl
  have hne' : D ≠ B := Ne.symm hne
  have hm1 : ((m : Int) + 1 == 0) = false := by rw [beq_eq_false_iff_ne]; omega
  have hm4 : m ≤ 4096 := by omega
  have hDn : D ≠ w.heap.size := by omega
  have hDn' : w.heap.size ≠ D := by omega
  have hBn : B ≠ w.heap.size := by omega
  have hBn' : w.heap.size ≠ B := by omega
  have hD1 : D < w.heap.size + 1 := by omega
  have hD2 : D < w.heap.size + 1 + 1 := by omega
  have hB1 : B < w.heap.size + 1 := by omega
  have hB2 : B < w.heap.size + 1 + 1 := by omega
  have hDm : D ≠ w.heap.size + 1 := by omega
  have hDm' : w.heap.size + 1 ≠ D := by omega
  have hBm : B ≠ w.heap.size + 1 := by omega
  have hBm' : w.heap.size + 1 ≠ B := by omega
  clear hr hm hf' hq hlen hx hx' hfl
  go_enter Try.func10, Try.ntmps10
  go_wp2_with fail
  go_region_with (fail)
  all_goals
    have HBW : Kp (Below w.heap.size w ((((w.alloc (.cells #[.int .i64 0, .int .i64 0] 28)).alloc (.cells #[.int .i64 0, .int .i64 0] 28)).alloc (.cells #[.int .i64 x, .int .i64 y] 28)).drew)) := ⟨below_dr (below_al (below_al (below_al (Below.refl _ _) _) _) _)⟩
    have b0 : Kp (((((w.alloc (.cells #[.int .i64 0, .int .i64 0] 28)).alloc (.cells #[.int .i64 0, .int .i64 0] 28)).alloc (.cells #[.int .i64 x, .int .i64 y] 28)).drew).heap[w.heap.size]? = some (.cells #[.int .i64 0, .int .i64 0] 28 (0, 0))) := ⟨blk_al (blk_al (blk_new _ _) _) _⟩
    have b1 : Kp (((((w.alloc (.cells #[.int .i64 0, .int .i64 0] 28)).alloc (.cells #[.int .i64 0, .int .i64 0] 28)).alloc (.cells #[.int .i64 x, .int .i64 y] 28)).drew).heap[w.heap.size + 1]? = some (.cells #[.int .i64 0, .int .i64 0] 28 (0, 0))) := ⟨blk_al (blk_at (w := w.alloc (.cells #[.int .i64 0, .int .i64 0] 28)) (by simp) _) _⟩
    have b2 : Kp (((((w.alloc (.cells #[.int .i64 0, .int .i64 0] 28)).alloc (.cells #[.int .i64 0, .int .i64 0] 28)).alloc (.cells #[.int .i64 x, .int .i64 y] 28)).drew).heap[w.heap.size + 1 + 1]? = some (.cells #[.int .i64 x, .int .i64 y] 28 (0, 0))) := ⟨blk_at (w := (w.alloc (.cells #[.int .i64 0, .int .i64 0] 28)).alloc (.cells #[.int .i64 0, .int .i64 0] 28)) (by simp) _⟩
    have hH := blk_below HR.out.head HBW.out
    have hG := blk_below HR.out.ring HBW.out
    have HH := Kp.mk hH
    have HG := Kp.mk hG
    generalize ((((w.alloc (.cells #[.int .i64 0, .int .i64 0] 28)).alloc (.cells #[.int .i64 0, .int .i64 0] 28)).alloc (.cells #[.int .i64 x, .int .i64 y] 28)).drew) = W4 at HBW b0 b1 b2 hH hG HH HG ⊢
    obtain ⟨nn, hnn⟩ : ∃ nn, w.heap.size = nn := ⟨_, rfl⟩
    have HNN := Kp.mk hnn
    rw [hnn] at b0 b1 b2 hB hD hDn hDn' hBn hBn' hDm hDm' hBm hBm' HBW hD1 hD2 hB1 hB2
    simp only [hnn]
    clear hnn c0 c1 c2 c3 c4 f1 f2 f3 f4
    have c0 : W4.cell? ⟨B, 0, none⟩ = some (.slice (some ⟨D, 0, none⟩) cap cap) := (cell_blk hH 0).trans rfl
    have c1 : W4.cell? ⟨B, 1, none⟩ = some (.int .i64 (first : Int)) := (cell_blk hH 1).trans rfl
    have c2 : W4.cell? ⟨B, 2, none⟩ = some (.int .i64 ((m : Int) + 1)) := (cell_blk hH 2).trans rfl
    have c3 : W4.cell? ⟨D, first * 2, none⟩ = some (.int .i64 (rs[first]'HFL.out).1) := by
      rw [cell_blk hG (first * 2), List.getElem?_toArray, p64s_fst rs first HFL.out]
    have c4 : W4.cell? ⟨D, first * 2 + 1, none⟩ = some (.int .i64 (rs[first]'HFL.out).2) := by
      rw [cell_blk hG (first * 2 + 1), List.getElem?_toArray, p64s_snd rs first HFL.out]
    have d0 : W4.cell? ⟨nn + 1, 0, none⟩ = some (.int .i64 0) := (cell_blk b1.out 0).trans rfl
    have d1 : W4.cell? ⟨nn + 1, 1, none⟩ = some (.int .i64 0) := (cell_blk b1.out 1).trans rfl
    have e0 : W4.cell? ⟨nn + 1 + 1, 0, none⟩ = some (.int .i64 x) := (cell_blk b2.out 0).trans rfl
    have e1 : W4.cell? ⟨nn + 1 + 1, 1, none⟩ = some (.int .i64 y) := (cell_blk b2.out 1).trans rfl
    have g0 : W4.cell? ⟨nn, 0, none⟩ = some (.int .i64 0) := (cell_blk b0.out 0).trans rfl
    have g1 : W4.cell? ⟨nn, 1, none⟩ = some (.int .i64 0) := (cell_blk b0.out 1).trans rfl
    have f1 : W4.frozen? ⟨B, 1, none⟩ = false := frozen_blk hH 1
    have f2 : W4.frozen? ⟨B, 2, none⟩ = false := frozen_blk hH 2
    have f3 : W4.frozen? ⟨D, first * 2, none⟩ = false := frozen_blk hG _
    have f4 : W4.frozen? ⟨D, first * 2 + 1, none⟩ = false := frozen_blk hG _
    have f5 : W4.frozen? ⟨nn, 0, none⟩ = false := frozen_blk b0.out _
    have f6 : W4.frozen? ⟨nn, 1, none⟩ = false := frozen_blk b0.out _
    clear hH hG
    go_wp2_with fail
    go_region_held3 (fun w' : World => w'.cell? ⟨B, 0, none⟩ = some (.slice (some ⟨D, 0, none⟩) cap cap) ∧ w'.cell? ⟨B, 1, none⟩ = some (.int .i64 (first : Int)) ∧ w'.cell? ⟨nn + 1, 0, none⟩ = some (.int .i64 0) ∧ w'.cell? ⟨nn + 1, 1, none⟩ = some (.int .i64 0)) (first | exact ⟨c0, c1, d0, d1⟩ | (simp [*, World.cell?_setCell_far]; done)) (fail)
    go_wp2_with fail
    have q0 : ((W4.setCell ⟨D, first * 2, none⟩ (.int .i64 0)).setCell ⟨D, first * 2 + 1, none⟩ (.int .i64 0)).cell? ⟨B, 0, none⟩ = some (.slice (some ⟨D, 0, none⟩) cap cap) := by rw [World.cell?_setCell_far _ _ _ _ hne', World.cell?_setCell_far _ _ _ _ hne']; exact c0
    have q1 : ((W4.setCell ⟨D, first * 2, none⟩ (.int .i64 0)).setCell ⟨D, first * 2 + 1, none⟩ (.int .i64 0)).cell? ⟨B, 1, none⟩ = some (.int .i64 (first : Int)) := by rw [World.cell?_setCell_far _ _ _ _ hne', World.cell?_setCell_far _ _ _ _ hne']; exact c1
    refine (fifoPAt_any B D cap first 1 f' HF.out _ hpos hmost hlt (by omega) (by exact q0) (by exact q1)).mono ?_
    rintro e w1 ⟨rfl, nq, rfl⟩
    clear q0 q1
    go_wp2
    have k1 := blk_set_ne (blk_set_ne (blk_set (blk_set (blk_drN (n := 1 + nq) (blk_set_ne (p := ⟨D, first * 2 + 1, none⟩) (blk_set_ne (p := ⟨D, first * 2, none⟩) HH.out hne (.int .i64 0)) hne (.int .i64 0))) 1 (.int .i64 (f' : Int))) 2 (.int .i64 (m : Int))) (p := ⟨nn, 0, none⟩) hBn (.int .i64 x)) (p := ⟨nn, 1, none⟩) hBn (.int .i64 y)
    have k2 := blk_set_ne (blk_set_ne (blk_set_ne (blk_set_ne (blk_drN (n := 1 + nq) (blk_set (blk_set HG.out (first * 2) (.int .i64 0)) (first * 2 + 1) (.int .i64 0))) (p := ⟨B, 1, none⟩) hne' (.int .i64 (f' : Int))) (p := ⟨B, 2, none⟩) hne' (.int .i64 (m : Int))) (p := ⟨nn, 0, none⟩) hDn (.int .i64 x)) (p := ⟨nn, 1, none⟩) hDn (.int .i64 y)
    have k3 := blk_set (blk_set (blk_set_ne (blk_set_ne (blk_drN (n := 1 + nq) (blk_set_ne (p := ⟨D, first * 2 + 1, none⟩) (blk_set_ne (p := ⟨D, first * 2, none⟩) b0.out hDn' (.int .i64 0)) hDn' (.int .i64 0))) (p := ⟨B, 1, none⟩) hBn' (.int .i64 (f' : Int))) (p := ⟨B, 2, none⟩) hBn' (.int .i64 (m : Int))) 0 (.int .i64 x)) 1 (.int .i64 y)
    have hbut := ((((((((ButS.of_below (S := [B, D]) (HNN.out ▸ HBW.out)).set (p := ⟨D, first * 2, none⟩) (by simp) (.int .i64 0)).set (p := ⟨D, first * 2 + 1, none⟩) (by simp) (.int .i64 0)).drN (n := 1 + nq)).set (p := ⟨B, 1, none⟩) (by simp) (.int .i64 (f' : Int))).set (p := ⟨B, 2, none⟩) (by simp) (.int .i64 (m : Int))).setNew (p := ⟨nn, 0, none⟩) (Nat.le_of_eq HNN.out) (.int .i64 x)).setNew (p := ⟨nn, 1, none⟩) (Nat.le_of_eq HNN.out) (.int .i64 y))
    rw [List.setIfInBounds_toArray, List.setIfInBounds_toArray, p64s_set rs first 0 0 HFL.out] at k2
    have r0 := (cell_blk k3 0).trans (show _ = some (Value.int .i64 x) from rfl)
    have r1 := (cell_blk k3 1).trans (show _ = some (Value.int .i64 y) from rfl)
    refine bodyPost_ret (v := .tuple #[.agg #[.int .i64 x, .int .i64 y], .int .i64 0]) (by rw [results_cell_tmp rfl]; simp [go_sem, r0, r1]) rfl ⟨rfl, hbut, ⟨rs.set first (0, 0), f', ⟨?_, k2, by rw [List.length_set]; exact HL.out, hpos, hmost, hfc, ?_⟩, ?_⟩⟩
    · refine k1.trans ?_
      rw [HM.out]
      rfl
    · rw [HM.out]; omega
    · rw [HM.out]
      have h := HQ.out
      rw [HL.out, HF.out] at h
      exact h
end Go.Proofs.Ytimikgencnkcnab

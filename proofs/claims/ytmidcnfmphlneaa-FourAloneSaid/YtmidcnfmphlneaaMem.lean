/- Contracts of package mem. -/
import Derived.Test.YtmidcnfmphlneaaRows
import Derived.Test.YtmidcnfmphlneaaLists
import Derived.BigQuiet
import Derived.Deep.QuietTactic
import Derived.Deep.OwnRows
import Derived.Laws.CopyOwn
namespace Go.Proofs.Ytmidcnfmphlneaa
open Go.RowKit
set_option linter.unusedSimpArgs false
set_option linter.unusedVariables false

def u32s (ws : List Int) : List Value := ws.map (Value.int .u32)
theorem u32s_len (ws : List Int) : (u32s ws).length = ws.length := by simp [u32s]
theorem u32s_at (ws : List Int) (i : Nat) (h : i < ws.length) : (u32s ws)[i]? = some (.int .u32 ws[i]) := by simp [u32s, h]
theorem u32s_set (ws : List Int) (i : Nat) (v : Int) : (u32s ws).set i (.int .u32 v) = u32s (ws.set i v) := by simp [u32s, List.map_set]
theorem u32s_one (ws : List Int) : ∀ v ∈ u32s ws, v.oneCell' = true := by
  intro v hv
  obtain ⟨x, _, rfl⟩ := List.mem_map.1 hv
  rfl
/-- A memory lies in block B; its words ws in block D. -/
structure MemAt (w : World) (B D : Nat) (ws : List Int) : Prop where
  head : w.heap[B]? = some (.cells #[.slice (some ⟨D, 0, none⟩) ws.length ws.length] 67 (0, 0))
  words : w.heap[D]? = some (.cells (u32s ws).toArray 41 (0, 0))
  len : ws.length ≤ 65536
theorem MemAt.ne {w : World} {B D : Nat} {ws : List Int} (h : MemAt w B D ws) : B ≠ D := fun e => by
  have h1 := h.head
  rw [e, h.words] at h1
  simp at h1
theorem MemAt.below {w w1 : World} {B D : Nat} {ws : List Int} (h : MemAt w B D ws) (hb : Below w.heap.size w w1) : MemAt w1 B D ws := ⟨blk_below h.head hb, blk_below h.words hb, h.len⟩
theorem MemAt.al {w : World} {B D : Nat} {ws : List Int} (h : MemAt w B D ws) (o : Obj) : MemAt (w.alloc o) B D ws := ⟨blk_al h.head o, blk_al h.words o, h.len⟩
theorem MemAt.set {w : World} {B D : Nat} {ws : List Int} (h : MemAt w B D ws) (i : Nat) (v : Int) : MemAt (w.setCell ⟨D, i, none⟩ (.int .u32 v)) B D (ws.set i v) :=
  ⟨by rw [List.length_set]; exact blk_set_ne h.head h.ne _, by
    have h1 := blk_set h.words i (.int .u32 v)
    rwa [List.setIfInBounds_toArray, u32s_set] at h1, by rw [List.length_set]; exact h.len⟩
theorem MemAt.slice {w : World} {B D : Nat} {ws : List Int} (h : MemAt w B D ws) : w.cell? ⟨B, 0, none⟩ = some (.slice (some ⟨D, 0, none⟩) ws.length ws.length) := (cell_blk h.head 0).trans rfl
theorem MemAt.cell {w : World} {B D : Nat} {ws : List Int} (h : MemAt w B D ws) {i : Nat} (hi : i < ws.length) : w.cell? ⟨D, i, none⟩ = some (.int .u32 ws[i]) := by
  rw [cell_blk h.words i]
  simp [u32s, hi]
theorem MemAt.free {w : World} {B D : Nat} {ws : List Int} (h : MemAt w B D ws) (i : Nat) : w.frozen? ⟨D, i, none⟩ = false := frozen_blk h.words i

theorem madeCells_rep (z : Value) (n : Nat) : madeCells #[z] n = (List.replicate n z).toArray := by
  have h := toList_madeCells_one z n
  rw [← h]

theorem Try.infoU32 : (Try.prog.info? 41).map (fun i => (i.zero, i.size, i.bytes)) = some (some (.int .u32 0), 1, 4) := by kernel_rfl

set_option maxHeartbeats 400000 in
theorem memNew_bad (n : Int) (hn : n < 0 ∨ 65536 < n) (w : World) : Calls Try.prog 9 #[.int .i64 n] w fun e w' => e = .returned (.tuple #[.pointer none, .int .i64 7]) ∧ w' = w := by
  by_cases h0 : n < 0
  · go_enter Try.func9, Try.ntmps9
    go_wp2
    go_ret2
    exact ⟨rfl, rfl⟩
  · have h1 : 65536 < n := by omega
    go_enter Try.func9, Try.ntmps9
    go_wp2
    go_ret2
    exact ⟨rfl, rfl⟩

set_option maxHeartbeats 400000 in
theorem memNew_any (n : Nat) (hn : n ≤ 65536) (w : World) : Calls Try.prog 9 #[.int .i64 n] w fun e w' =>
    ∃ B D, e = .returned (.tuple #[.pointer (some ⟨B, 0, none⟩), .int .i64 0]) ∧ Kp (MemAt w' B D (List.replicate n 0)) ∧ Below w.heap.size w w' ∧ w.heap.size ≤ B ∧ w.heap.size ≤ D := by
  have hmk := fun w => run_make_row' (P := Try.prog) 46 41 (.int .u32 0) 4 Try.underlying46 Try.infoU32 rfl .i64 .i64 n (by omega) (by omega) w
  go_enter Try.func9, Try.ntmps9
  go_wp2
  go_ret2
  refine ⟨_, _, rfl, ⟨⟨?_, ?_, by simpa using hn⟩⟩, below_al (below_al (Below.refl _ _) _) _, by simp, Nat.le_refl _⟩
  · rw [List.length_replicate]
    exact blk_at (w := w.alloc _) (by simp) _
  · rw [madeCells_rep]
    refine blk_al ?_ _
    rw [u32s, List.map_replicate]
    exact blk_new w _

set_option maxHeartbeats 400000 in
theorem memThere_any (B D : Nat) (ws : List Int) (x : Int) (b : Bool) (hb : decide (x < (ws.length : Int)) = b) (w : World) (h : MemAt w B D ws) : Calls Try.prog 48 #[.pointer (some ⟨B, 0, none⟩), .int .u64 x] w fun e w' => e = .returned (.bool b) ∧ w' = w := by
  subst hb
  have h1 := h.slice
  have h2 := h.len
  clear h
  go_enter Try.func48, Try.ntmps48
  go_wp2
  go_ret
  exact ⟨rfl, rfl⟩

set_option maxHeartbeats 400000 in
theorem memLoad_in (B D : Nat) (ws : List Int) (i : Nat) (hi : i < ws.length) (w : World) (h : MemAt w B D ws) : Calls Try.prog 37 #[.pointer (some ⟨B, 0, none⟩), .int .u64 i] w fun e w' => e = .returned (.tuple #[.int .u32 ws[i], .int .i64 0]) ∧ w' = w := by
  have h1 := h.slice
  have h2 := h.len
  have h3 := h.cell hi
  have H := Kp.mk h
  clear h
  go_enter Try.func37, Try.ntmps37
  go_wp2_with (go_at_call 48; refine (memThere_any _ _ _ _ true (decide_eq_true (by omega)) _ H.out).mono ?_; rintro e w' ⟨rfl, rfl⟩)
  go_ret2
  exact ⟨rfl, rfl⟩

set_option maxHeartbeats 400000 in
theorem memLoad_out (B D : Nat) (ws : List Int) (x : Int) (hx : ¬ x < ws.length) (w : World) (h : MemAt w B D ws) : Calls Try.prog 37 #[.pointer (some ⟨B, 0, none⟩), .int .u64 x] w fun e w' => e = .returned (.tuple #[.int .u32 0, .int .i64 6]) ∧ w' = w := by
  have H := Kp.mk h
  clear h
  go_enter Try.func37, Try.ntmps37
  go_wp2_with (go_at_call 48; refine (memThere_any _ _ _ _ false (decide_eq_false (by omega)) _ H.out).mono ?_; rintro e w' ⟨rfl, rfl⟩)
  go_ret2
  exact ⟨rfl, rfl⟩

set_option maxHeartbeats 400000 in
theorem memStore_in (B D : Nat) (ws : List Int) (i : Nat) (v : Int) (hi : i < ws.length) (w : World) (h : MemAt w B D ws) : Calls Try.prog 51 #[.pointer (some ⟨B, 0, none⟩), .int .u64 i, .int .u32 v] w fun e w' => e = .returned (.int .i64 0) ∧ w' = w.setCell ⟨D, i, none⟩ (.int .u32 v) := by
  have h1 := h.slice
  have h2 := h.len
  have h3 := h.cell hi
  have h4 := h.free i
  have H := Kp.mk h
  clear h
  go_enter Try.func51, Try.ntmps51
  go_wp2_with (go_at_call 48; refine (memThere_any _ _ _ _ true (decide_eq_true (by omega)) _ H.out).mono ?_; rintro e w' ⟨rfl, rfl⟩)
  go_ret
  exact ⟨rfl, rfl⟩

set_option maxHeartbeats 400000 in
theorem memStore_out (B D : Nat) (ws : List Int) (x v : Int) (hx : ¬ x < ws.length) (w : World) (h : MemAt w B D ws) : Calls Try.prog 51 #[.pointer (some ⟨B, 0, none⟩), .int .u64 x, .int .u32 v] w fun e w' => e = .returned (.int .i64 6) ∧ w' = w := by
  have H := Kp.mk h
  clear h
  go_enter Try.func51, Try.ntmps51
  go_wp2_with (go_at_call 48; refine (memThere_any _ _ _ _ false (decide_eq_false (by omega)) _ H.out).mono ?_; rintro e w' ⟨rfl, rfl⟩)
  go_ret
  exact ⟨rfl, rfl⟩

end Go.Proofs.Ytmidcnfmphlneaa

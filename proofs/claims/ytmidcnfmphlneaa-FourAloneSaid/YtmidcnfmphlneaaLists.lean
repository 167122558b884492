/- Slices that lie in memory as rows of cells: small lemmas, nothing of the program. -/
import Derived.Test.YtmidcnfmphlneaaLib
import Derived.Maps.AppendAt
import Derived.Laws.OwnMore
namespace Go.Proofs.Ytmidcnfmphlneaa
open Go.RowKit
/-- The slice v has n elements of k cells each; these are cs. -/
def RowAt (w : World) (k : Nat) (v : Value) (n : Nat) (cs : List Value) : Prop :=
  cs.length = n * k ∧ (((∃ a cap, v = .slice a 0 cap ∧ cap ≤ maxLen) ∧ n = 0) ∨ ∃ g o cap, v = .slice (some ⟨g, o, none⟩) n cap ∧ n ≤ cap ∧ cap ≤ maxLen ∧ g < w.heap.size ∧ ∀ i, i < n * k → w.cell? ⟨g, o + i, none⟩ = cs[i]?)
theorem RowAt.below {w w1 : World} {k : Nat} {v : Value} {n : Nat} {cs : List Value} (h : RowAt w k v n cs) (hb : Below w.heap.size w w1) : RowAt w1 k v n cs := by
  obtain ⟨h0, h | ⟨g, o, cap, h1, h2, h3, h4, h5⟩⟩ := h
  · exact ⟨h0, .inl h⟩
  · exact ⟨h0, .inr ⟨g, o, cap, h1, h2, h3, Nat.lt_of_lt_of_le h4 hb.size, fun i hi => (hb.cell (p := ⟨g, o + i, none⟩) h4).trans (h5 i hi)⟩⟩
theorem RowAt.drew {w : World} {k : Nat} {v : Value} {n : Nat} {cs : List Value} (h : RowAt w k v n cs) : RowAt w.drew k v n cs := h
theorem RowAt.shape {w : World} {k : Nat} {v : Value} {n : Nat} {cs : List Value} (h : RowAt w k v n cs) : ∃ a cap, v = .slice a n cap ∧ n ≤ cap ∧ cap ≤ maxLen := by
  obtain ⟨h0, ⟨⟨a, cap, rfl, hc⟩, rfl⟩ | ⟨g, o, cap, rfl, h2, h3, h4, h5⟩⟩ := h
  · exact ⟨a, cap, rfl, Nat.zero_le _, hc⟩
  · exact ⟨_, cap, rfl, h2, h3⟩
/-- Where there is an element, the address is there. -/
theorem RowAt.at {w : World} {k : Nat} {a : Option Addr} {n cap : Nat} {cs : List Value} (h : RowAt w k (.slice a n cap) n cs) (hn : 0 < n) :
    ∃ g o, a = some ⟨g, o, none⟩ ∧ g < w.heap.size ∧ ∀ i, i < n * k → w.cell? ⟨g, o + i, none⟩ = cs[i]? := by
  obtain ⟨h0, ⟨h, rfl⟩ | ⟨g, o, cap', h1, h2, h3, h4, h5⟩⟩ := h
  · omega
  · simp only [Value.slice.injEq] at h1
    exact ⟨g, o, h1.1, h4, h5⟩
theorem RowAt.take {w : World} {k : Nat} {a : Option Addr} {n cap : Nat} {cs : List Value} (h : RowAt w k (.slice a n cap) n cs) {m : Nat} (hm : m ≤ n) : RowAt w k (.slice a m cap) m (cs.take (m * k)) := by
  obtain ⟨h0, ⟨h, rfl⟩ | ⟨g, o, cap', h1, h2, h3, h4, h5⟩⟩ := h
  · obtain rfl : m = 0 := by omega
    exact ⟨by simp, .inl ⟨h, rfl⟩⟩
  · simp only [Value.slice.injEq] at h1
    obtain ⟨rfl, _, rfl⟩ := h1
    have hmk : m * k ≤ n * k := Nat.mul_le_mul_right _ hm
    refine ⟨by rw [List.length_take]; omega, .inr ⟨g, o, cap, rfl, by omega, h3, h4, fun i hi => ?_⟩⟩
    rw [h5 i (by omega), List.getElem?_take_of_lt hi]
theorem RowAt.of_own {w : World} {base : Nat} {e : TypeId} {k : Nat} {v : Value} {n : Nat} {cs : List Value} (h : w.ownsRow base e k v n cs) : RowAt w k v n cs := by
  obtain ⟨h0, h | ⟨g, cap, cur, h1, h2, h3, h4, h5, h6, h7⟩⟩ := h
  · exact ⟨h0, .inl ⟨⟨none, 0, h.1, Nat.zero_le _⟩, h.2⟩⟩
  · refine ⟨h0, .inr ⟨g, 0, cap, h1, h4, h5, blk_lt h3, fun i hi => ?_⟩⟩
    rw [Nat.zero_add, cell_blk h3 i, ← h7, List.getElem?_take_of_lt hi, Array.getElem?_toList]
theorem run_slice_to {P : Program} (t e : TypeId) (h : P.underlying t = some (.slice e)) {i : TypeInfo} (hi : P.info? e = some i) (a : Option Addr) (n c m : Nat) (hm : m ≤ c) (w : World) :
    (Instr.slice t (.slice a n c) none (some (.int .i64 (m : Int))) none).run P w = .ok (.slice a m c) w := by
  have he : P.underlying t = some (.slice (P.elem t)) := by simp [Program.elem, h]
  have h1 := run_slice_h (P := P) (w := w) (t := t) (a := a) (len := n) (cap := c) (ht := he) (kh := .i64) (h := (m : Int)) (by omega) (by omega)
  rw [h1]
  have e1 : P.elem t = e := by simp [Program.elem, h]
  have e2 : (fun x : Addr => x.add 0) = id := by funext x; simp [Addr.add]
  rw [e1]
  simp [run_sizeOf w hi, Go.sliced, Result.andThen, e2]
/-- A row of the call's own stays, whatever a callee makes. -/
theorem own_below {w w1 : World} {base : Nat} {e : TypeId} {k : Nat} {v : Value} {n : Nat} {cs : List Value} (h : w.ownsRow base e k v n cs) (hb : Below w.heap.size w w1) : w1.ownsRow base e k v n cs := by
  obtain ⟨h0, h | ⟨g, cap, cur, h1, h2, h3, r⟩⟩ := h
  · exact ⟨h0, .inl h⟩
  · exact ⟨h0, .inr ⟨g, cap, cur, h1, h2, blk_below h3 hb, r⟩⟩
theorem own_base {w : World} {base base' : Nat} {e : TypeId} {k : Nat} {v : Value} {n : Nat} {cs : List Value} (h : w.ownsRow base e k v n cs) (hb : base' ≤ base) : w.ownsRow base' e k v n cs := by
  obtain ⟨h0, h | ⟨g, cap, cur, h1, h2, r⟩⟩ := h
  · exact ⟨h0, .inl h⟩
  · exact ⟨h0, .inr ⟨g, cap, cur, h1, Nat.le_trans hb h2, r⟩⟩
theorem own_set_ne {w : World} {base : Nat} {e : TypeId} {k : Nat} {v : Value} {n : Nat} {cs : List Value} (h : w.ownsRow base e k v n cs) {p : Addr} (hp : p.block < base) (u : Value) : (w.setCell p u).ownsRow base e k v n cs := by
  obtain ⟨h0, h | ⟨g, cap, cur, h1, h2, h3, r⟩⟩ := h
  · exact ⟨h0, .inl h⟩
  · exact ⟨h0, .inr ⟨g, cap, cur, h1, h2, blk_set_ne h3 (by omega) u, r⟩⟩
/-- Behind an append to a row of the call's own. -/
theorem below_own {w wr w1 : World} {base : Nat} {e : TypeId} {k : Nat} {v : Value} {n : Nat} {cs : List Value} (hB : Below w.heap.size w wr) (hbase : w.heap.size ≤ base) (hown : wr.ownsRow base e k v n cs)
    (hg : wr.grownBy w1 v.ownBlock) : Below w.heap.size w w1 :=
  hB.grown hg hB.size fun j hj => Nat.le_trans hbase (hown.lt j hj).1
/-- A block below the base stays. -/
theorem blk_grown {wr w1 : World} {base : Nat} {e : TypeId} {k : Nat} {v : Value} {n : Nat} {cs : List Value} {b : Nat} {o : Obj} (h : wr.heap[b]? = some o) (hb : b < base) (hown : wr.ownsRow base e k v n cs)
    (hg : wr.grownBy w1 v.ownBlock) : w1.heap[b]? = some o := by
  rw [hg.block b (blk_lt h) fun he => by have := (hown.lt b he.symm).1; omega]; exact h
/-- All blocks that stood lie as they lay, but those listed. -/
structure ButS (S : List Nat) (W0 W : World) : Prop where
  os : W.os = W0.os
  tape : W.tape = W0.tape
  output : W.output = W0.output
  size : W0.heap.size ≤ W.heap.size
  block : ∀ k, k < W0.heap.size → k ∉ S → W.heap[k]? = W0.heap[k]?
theorem ButS.refl (S : List Nat) (W : World) : ButS S W W := ⟨rfl, rfl, rfl, Nat.le_refl _, fun _ _ _ => rfl⟩
theorem ButS.trans {S : List Nat} {A B C : World} (h : ButS S A B) (k : ButS S B C) : ButS S A C :=
  ⟨k.os.trans h.os, k.tape.trans h.tape, k.output.trans h.output, Nat.le_trans h.size k.size, fun i hi hn => (k.block i (Nat.lt_of_lt_of_le hi h.size) hn).trans (h.block i hi hn)⟩
theorem ButS.mono {S S' : List Nat} {A B : World} (h : ButS S A B) (hs : ∀ k, k ∈ S → k ∈ S') : ButS S' A B := ⟨h.os, h.tape, h.output, h.size, fun i hi hn => h.block i hi fun hm => hn (hs i hm)⟩
theorem ButS.blk {S : List Nat} {k : Nat} {W0 W : World} {o : Obj} (h : ButS S W0 W) (hk : W0.heap[k]? = some o) (hne : k ∉ S) : W.heap[k]? = some o := (h.block k (blk_lt hk) hne).trans hk
theorem ButS.of_below {S : List Nat} {W0 W : World} (h : Below W0.heap.size W0 W) : ButS S W0 W := ⟨h.os, h.tape, h.output, h.size, fun k hk _ => h.block k hk⟩
theorem ButS.dr {S : List Nat} {W0 W : World} (h : ButS S W0 W) : ButS S W0 W.drew := ⟨h.os, h.tape, h.output, h.size, h.block⟩
theorem ButS.drN {S : List Nat} {W0 W : World} {n : Nat} (h : ButS S W0 W) : ButS S W0 (W.drewN n) := ⟨h.os, h.tape, h.output, h.size, h.block⟩
theorem ButS.set {S : List Nat} {W0 W : World} (h : ButS S W0 W) {p : Addr} (hp : p.block ∈ S) (v : Value) : ButS S W0 (W.setCell p v) :=
  ⟨h.os, h.tape, h.output, by simpa [World.setCell] using h.size, fun k hk hne => (Below.heap_setCell W p v k fun e => hne (e ▸ hp)).trans (h.block k hk hne)⟩
theorem ButS.below {S : List Nat} {B : Nat} {w W0 W : World} (h : ButS S W0 W) (hb : Below B w W0) (hB : ∀ k, k ∈ S → B ≤ k) (hs : B ≤ W0.heap.size) : Below B w W :=
  ⟨h.os.trans hb.os, h.tape.trans hb.tape, h.output.trans hb.output, Nat.le_trans hb.size h.size, fun k hk => (h.block k (by omega) fun hm => by have := hB k hm; omega).trans (hb.block k hk)⟩
theorem ButS.cell {S : List Nat} {W0 W : World} (h : ButS S W0 W) {b o : Nat} (hb : b < W0.heap.size) (hn : b ∉ S) : W.cell? ⟨b, o, none⟩ = W0.cell? ⟨b, o, none⟩ := World.cell?_of_block (w := W0) (a := ⟨b, o, none⟩) (h.block b hb hn)
theorem RowAt.but {S : List Nat} {w w1 : World} {k : Nat} {a : Option Addr} {n cap : Nat} {cs : List Value} (h : RowAt w k (.slice a n cap) n cs) (hb : ButS S w w1) (hn : ∀ x, a = some x → x.block ∉ S) : RowAt w1 k (.slice a n cap) n cs := by
  obtain ⟨h0, h | ⟨g, o, cap', h1, h2, h3, h4, h5⟩⟩ := h
  · exact ⟨h0, .inl h⟩
  · simp only [Value.slice.injEq] at h1
    obtain ⟨rfl, _, rfl⟩ := h1
    exact ⟨h0, .inr ⟨g, o, cap, rfl, h2, h3, Nat.lt_of_lt_of_le h4 hb.size, fun i hi => (hb.cell h4 (hn _ rfl)).trans (h5 i hi)⟩⟩
def i64s (ws : List Int) : List Value := ws.map (Value.int .i64)
theorem i64s_at (ws : List Int) (i : Nat) (h : i < ws.length) : (i64s ws)[i]? = some (.int .i64 ws[i]) := by simp [i64s, h]
theorem i64s_set (ws : List Int) (i : Nat) (v : Int) : (i64s ws).set i (.int .i64 v) = i64s (ws.set i v) := by simp [i64s, List.map_set]
end Go.Proofs.Ytmidcnfmphlneaa

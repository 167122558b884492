/- Small general lemmas on worlds and endings: nothing of the program.; Slices that lie in memory as rows of cells: small lemmas, nothing of the program.; The four slots, plain: the steps of a writer and of a reader on a list of words. Nothing of the program.; Contracts of package mem.; How an argument that reads as data lies in memory, said by its shape; and the law's row out of its walk. Nothing of the program but the numbers of its types comes in.; Slices of structs as rows in memory; a configuration as an argument.; Contracts of slices.IndexFunc and slices.ContainsFunc, at rows of a configuration. -/
import Derived.WalkKit
import Derived.Deep.RegionHeld3
import Derived.WalkSpells
import Derived.WalkLawsBesides
import Derived.Maps.AppendAt
import Derived.Laws.OwnMore
import Derived.Test.YtmidcnfmphlneaaGreatRows
import Derived.BigQuiet
import Derived.Deep.QuietTactic
import Derived.Deep.OwnRows
import Derived.Laws.CopyOwn
import Derived.ProofKit
import Derived.OpenShut
import Derived.Deep.Slices
namespace Go.Proofs.YtmidcnfmphlneaaGreat
section
open Go.RowKit
theorem ret_bool {a b : Bool} (h : a = b) : Ending.returned (.bool a) = .returned (.bool b) := by rw [h]
theorem ret_int {k : IntKind} {a b : Int} (h : a = b) : Ending.returned (.int k a) = .returned (.int k b) := by rw [h]
/-- A fact kept from the walk's simp. -/
structure Kp (p : Prop) : Prop where
  out : p
theorem blk_new (w : World) (o : Obj) : (w.alloc o).heap[w.heap.size]? = some o := by
  show (w.heap.push o)[w.heap.size]? = _
  simp
theorem blk_at {w : World} {n : Nat} (h : w.heap.size = n) (o : Obj) : (w.alloc o).heap[n]? = some o := by subst h; exact blk_new w o
theorem blk_lt {w : World} {b : Nat} {o : Obj} (h : w.heap[b]? = some o) : b < w.heap.size := (Array.getElem?_eq_some_iff.1 h).1
theorem blk_al {w : World} {b : Nat} {o : Obj} (h : w.heap[b]? = some o) (o' : Obj) : (w.alloc o').heap[b]? = some o := by
  show (w.heap.push o')[b]? = _
  rw [Array.getElem?_push, if_neg (Nat.ne_of_lt (blk_lt h))]
  exact h
theorem blk_below {w w1 : World} {b : Nat} {o : Obj} (h : w.heap[b]? = some o) (hb : Below w.heap.size w w1) : w1.heap[b]? = some o := (hb.block b (blk_lt h)).trans h
theorem blk_dr {w : World} {b : Nat} {o : Obj} (h : w.heap[b]? = some o) : w.drew.heap[b]? = some o := h
theorem cell_blk {w : World} {b : Nat} {c : Array Value} {t : TypeId} {fz : Nat × Nat} (h : w.heap[b]? = some (.cells c t fz)) (o : Nat) : w.cell? ⟨b, o, none⟩ = c[o]? := by
  simp [World.cell?, h]
theorem frozen_blk {w : World} {b : Nat} {c : Array Value} {t : TypeId} (h : w.heap[b]? = some (.cells c t (0, 0))) (o : Nat) : w.frozen? ⟨b, o, none⟩ = false := by
  simp [World.frozen?, h]
/-- A store into a known block. -/
theorem blk_set {w : World} {b : Nat} {c : Array Value} {t : TypeId} {fz : Nat × Nat} (h : w.heap[b]? = some (.cells c t fz)) (o : Nat) (v : Value) : (w.setCell ⟨b, o, none⟩ v).heap[b]? = some (.cells (c.setIfInBounds o v) t fz) := by
  simp [World.setCell, Array.getElem?_modify, h]
theorem blk_set_ne {w : World} {b : Nat} {o : Obj} (h : w.heap[b]? = some o) {p : Addr} (hp : b ≠ p.block) (v : Value) : (w.setCell p v).heap[b]? = some o := (Below.heap_setCell w p v b hp).trans h
theorem bcell {W w1 : World} (hb : Below W.heap.size W w1) : (∀ b o, b < W.heap.size → w1.cell? ⟨b, o, none⟩ = W.cell? ⟨b, o, none⟩) ∧ (∀ b o, b < W.heap.size → w1.frozen? ⟨b, o, none⟩ = W.frozen? ⟨b, o, none⟩) :=
  ⟨fun b o h => hb.cell (p := ⟨b, o, none⟩) h, fun b o h => hb.frozen (p := ⟨b, o, none⟩) h⟩
theorem hz1 {n m : Nat} (h : n + 1 ≤ m) : n < m := h
theorem hz2 {n m : Nat} (h : n + 1 + 1 ≤ m) : n < m ∧ n + 1 < m := ⟨by omega, by omega⟩
theorem hz3 {n m : Nat} (h : n + 1 + 1 + 1 ≤ m) : n < m ∧ n + 1 < m ∧ n + 1 + 1 < m := ⟨by omega, by omega, by omega⟩
theorem below_call {w w1 w2 : World} (h : Below w.heap.size w w1) (hb : Below w1.heap.size w1 w2) : Below w.heap.size w w2 := h.trans (hb.mono h.size)
theorem below_al {w w1 : World} (h : Below w.heap.size w w1) (o : Obj) : Below w.heap.size w (w1.alloc o) := h.alloc h.size o
theorem add_at (b o n : Nat) : (⟨b, o, none⟩ : Addr).add n = ⟨b, o + n, none⟩ := by
  unfold Addr.add
  split
  · rename_i h; subst h; rfl
  · rfl
theorem below_drN {B n : Nat} {a w : World} (h : Below B a w) : Below B a (w.drewN n) := ⟨h.os, h.tape, h.output, h.size, h.block⟩
theorem below_dr {B : Nat} {a w : World} (h : Below B a w) : Below B a w.drew := h.drew
/-- What a region that holds calls keeps: below the heap's size at its beginning all is as it was. -/
theorem old_of {W0 w : World} (h : Below W0.heap.size W0 w) : Below W0.heap.size W0 w ∧ ∀ b o, b < W0.heap.size → w.cell? ⟨b, o, none⟩ = W0.cell? ⟨b, o, none⟩ := ⟨h, (bcell h).1⟩
theorem old_call {W0 w1 w2 : World} (h : Below W0.heap.size W0 w1 ∧ ∀ b o, b < W0.heap.size → w1.cell? ⟨b, o, none⟩ = W0.cell? ⟨b, o, none⟩) (hb : Below w1.heap.size w1 w2) :
    Below W0.heap.size W0 w2 ∧ ∀ b o, b < W0.heap.size → w2.cell? ⟨b, o, none⟩ = W0.cell? ⟨b, o, none⟩ := old_of (below_call h.1 hb)
theorem old_drew (W0 : World) : Below W0.heap.size W0 W0.drew ∧ ∀ b o, b < W0.heap.size → W0.drew.cell? ⟨b, o, none⟩ = W0.cell? ⟨b, o, none⟩ := old_of (Below.refl _ _).drew
end
section
open Go.RowKit
/-- The slice v has n elements of k cells each; these are cs. -/
def RowAt (w : World) (k : Nat) (v : Value) (n : Nat) (cs : List Value) : Prop :=
  cs.length = n * k ∧ (((∃ a cap, v = .slice a 0 cap ∧ cap ≤ maxLen) ∧ n = 0) ∨ ∃ g o cap, v = .slice (some ⟨g, o, none⟩) n cap ∧ n ≤ cap ∧ cap ≤ maxLen ∧ g < w.heap.size ∧ ∀ i, i < n * k → w.cell? ⟨g, o + i, none⟩ = cs[i]?)
theorem RowAt.below {w w1 : World} {k : Nat} {v : Value} {n : Nat} {cs : List Value} (h : RowAt w k v n cs) (hb : Below w.heap.size w w1) : RowAt w1 k v n cs := by
  obtain ⟨h0, h | ⟨g, o, cap, h1, h2, h3, h4, h5⟩⟩ := h
  · exact ⟨h0, .inl h⟩
  · exact ⟨h0, .inr ⟨g, o, cap, h1, h2, h3, Nat.lt_of_lt_of_le h4 hb.size, fun i hi => (hb.cell (p := ⟨g, o + i, none⟩) h4).trans (h5 i hi)⟩⟩
theorem RowAt.drew {w : World} {k : Nat} {v : Value} {n : Nat} {cs : List Value} (h : RowAt w k v n cs) : RowAt w.drew k v n cs := h
theorem RowAt.shape {w : World} {k : Nat} {v : Value} {n : Nat} {cs : List Value} (h : RowAt w k v n cs) : ∃ a cap, v = .slice a n cap ∧ n ≤ cap ∧ cap ≤ maxLen := by
  obtain ⟨h0, ⟨⟨a, cap, rfl, hc⟩, rfl⟩ | ⟨g, o, cap, rfl, h2, h3, h4, h5⟩⟩ := h
  · exact ⟨a, cap, rfl, Nat.zero_le _, hc⟩
  · exact ⟨_, cap, rfl, h2, h3⟩
/-- Where there is an element, the address is there. -/
theorem RowAt.at {w : World} {k : Nat} {a : Option Addr} {n cap : Nat} {cs : List Value} (h : RowAt w k (.slice a n cap) n cs) (hn : 0 < n) :
    ∃ g o, a = some ⟨g, o, none⟩ ∧ g < w.heap.size ∧ ∀ i, i < n * k → w.cell? ⟨g, o + i, none⟩ = cs[i]? := by
  obtain ⟨h0, ⟨h, rfl⟩ | ⟨g, o, cap', h1, h2, h3, h4, h5⟩⟩ := h
  · omega
  · simp only [Value.slice.injEq] at h1
    exact ⟨g, o, h1.1, h4, h5⟩
theorem RowAt.take {w : World} {k : Nat} {a : Option Addr} {n cap : Nat} {cs : List Value} (h : RowAt w k (.slice a n cap) n cs) {m : Nat} (hm : m ≤ n) : RowAt w k (.slice a m cap) m (cs.take (m * k)) := by
  obtain ⟨h0, ⟨h, rfl⟩ | ⟨g, o, cap', h1, h2, h3, h4, h5⟩⟩ := h
  · obtain rfl : m = 0 := by omega
    exact ⟨by simp, .inl ⟨h, rfl⟩⟩
  · simp only [Value.slice.injEq] at h1
    obtain ⟨rfl, _, rfl⟩ := h1
    have hmk : m * k ≤ n * k := Nat.mul_le_mul_right _ hm
    refine ⟨by rw [List.length_take]; omega, .inr ⟨g, o, cap, rfl, by omega, h3, h4, fun i hi => ?_⟩⟩
    rw [h5 i (by omega), List.getElem?_take_of_lt hi]
theorem RowAt.of_own {w : World} {base : Nat} {e : TypeId} {k : Nat} {v : Value} {n : Nat} {cs : List Value} (h : w.ownsRow base e k v n cs) : RowAt w k v n cs := by
  obtain ⟨h0, h | ⟨g, cap, cur, h1, h2, h3, h4, h5, h6, h7⟩⟩ := h
  · exact ⟨h0, .inl ⟨⟨none, 0, h.1, Nat.zero_le _⟩, h.2⟩⟩
  · refine ⟨h0, .inr ⟨g, 0, cap, h1, h4, h5, blk_lt h3, fun i hi => ?_⟩⟩
    rw [Nat.zero_add, cell_blk h3 i, ← h7, List.getElem?_take_of_lt hi, Array.getElem?_toList]
/-- A row of the call's own stays, whatever a callee makes. -/
theorem own_below {w w1 : World} {base : Nat} {e : TypeId} {k : Nat} {v : Value} {n : Nat} {cs : List Value} (h : w.ownsRow base e k v n cs) (hb : Below w.heap.size w w1) : w1.ownsRow base e k v n cs := by
  obtain ⟨h0, h | ⟨g, cap, cur, h1, h2, h3, r⟩⟩ := h
  · exact ⟨h0, .inl h⟩
  · exact ⟨h0, .inr ⟨g, cap, cur, h1, h2, blk_below h3 hb, r⟩⟩
theorem own_base {w : World} {base base' : Nat} {e : TypeId} {k : Nat} {v : Value} {n : Nat} {cs : List Value} (h : w.ownsRow base e k v n cs) (hb : base' ≤ base) : w.ownsRow base' e k v n cs := by
  obtain ⟨h0, h | ⟨g, cap, cur, h1, h2, r⟩⟩ := h
  · exact ⟨h0, .inl h⟩
  · exact ⟨h0, .inr ⟨g, cap, cur, h1, Nat.le_trans hb h2, r⟩⟩
theorem own_set_ne {w : World} {base : Nat} {e : TypeId} {k : Nat} {v : Value} {n : Nat} {cs : List Value} (h : w.ownsRow base e k v n cs) {p : Addr} (hp : p.block < base) (u : Value) : (w.setCell p u).ownsRow base e k v n cs := by
  obtain ⟨h0, h | ⟨g, cap, cur, h1, h2, h3, r⟩⟩ := h
  · exact ⟨h0, .inl h⟩
  · exact ⟨h0, .inr ⟨g, cap, cur, h1, h2, blk_set_ne h3 (by omega) u, r⟩⟩
/-- A block below the base stays. -/
theorem blk_grown {wr w1 : World} {base : Nat} {e : TypeId} {k : Nat} {v : Value} {n : Nat} {cs : List Value} {b : Nat} {o : Obj} (h : wr.heap[b]? = some o) (hb : b < base) (hown : wr.ownsRow base e k v n cs)
    (hg : wr.grownBy w1 v.ownBlock) : w1.heap[b]? = some o := by
  rw [hg.block b (blk_lt h) fun he => by have := (hown.lt b he.symm).1; omega]; exact h
/-- All blocks that stood lie as they lay, but those listed. -/
structure ButS (S : List Nat) (W0 W : World) : Prop where
  os : W.os = W0.os
  tape : W.tape = W0.tape
  output : W.output = W0.output
  size : W0.heap.size ≤ W.heap.size
  block : ∀ k, k < W0.heap.size → k ∉ S → W.heap[k]? = W0.heap[k]?
theorem ButS.refl (S : List Nat) (W : World) : ButS S W W := ⟨rfl, rfl, rfl, Nat.le_refl _, fun _ _ _ => rfl⟩
theorem ButS.trans {S : List Nat} {A B C : World} (h : ButS S A B) (k : ButS S B C) : ButS S A C :=
  ⟨k.os.trans h.os, k.tape.trans h.tape, k.output.trans h.output, Nat.le_trans h.size k.size, fun i hi hn => (k.block i (Nat.lt_of_lt_of_le hi h.size) hn).trans (h.block i hi hn)⟩
theorem ButS.mono {S S' : List Nat} {A B : World} (h : ButS S A B) (hs : ∀ k, k ∈ S → k ∈ S') : ButS S' A B := ⟨h.os, h.tape, h.output, h.size, fun i hi hn => h.block i hi fun hm => hn (hs i hm)⟩
theorem ButS.blk {S : List Nat} {k : Nat} {W0 W : World} {o : Obj} (h : ButS S W0 W) (hk : W0.heap[k]? = some o) (hne : k ∉ S) : W.heap[k]? = some o := (h.block k (blk_lt hk) hne).trans hk
theorem ButS.of_below {S : List Nat} {W0 W : World} (h : Below W0.heap.size W0 W) : ButS S W0 W := ⟨h.os, h.tape, h.output, h.size, fun k hk _ => h.block k hk⟩
theorem ButS.dr {S : List Nat} {W0 W : World} (h : ButS S W0 W) : ButS S W0 W.drew := ⟨h.os, h.tape, h.output, h.size, h.block⟩
theorem ButS.drN {S : List Nat} {W0 W : World} {n : Nat} (h : ButS S W0 W) : ButS S W0 (W.drewN n) := ⟨h.os, h.tape, h.output, h.size, h.block⟩
theorem ButS.set {S : List Nat} {W0 W : World} (h : ButS S W0 W) {p : Addr} (hp : p.block ∈ S) (v : Value) : ButS S W0 (W.setCell p v) :=
  ⟨h.os, h.tape, h.output, by simpa [World.setCell] using h.size, fun k hk hne => (Below.heap_setCell W p v k fun e => hne (e ▸ hp)).trans (h.block k hk hne)⟩
theorem ButS.below {S : List Nat} {B : Nat} {w W0 W : World} (h : ButS S W0 W) (hb : Below B w W0) (hB : ∀ k, k ∈ S → B ≤ k) (hs : B ≤ W0.heap.size) : Below B w W :=
  ⟨h.os.trans hb.os, h.tape.trans hb.tape, h.output.trans hb.output, Nat.le_trans hb.size h.size, fun k hk => (h.block k (by omega) fun hm => by have := hB k hm; omega).trans (hb.block k hk)⟩
theorem ButS.cell {S : List Nat} {W0 W : World} (h : ButS S W0 W) {b o : Nat} (hb : b < W0.heap.size) (hn : b ∉ S) : W.cell? ⟨b, o, none⟩ = W0.cell? ⟨b, o, none⟩ := World.cell?_of_block (w := W0) (a := ⟨b, o, none⟩) (h.block b hb hn)
theorem RowAt.but {S : List Nat} {w w1 : World} {k : Nat} {a : Option Addr} {n cap : Nat} {cs : List Value} (h : RowAt w k (.slice a n cap) n cs) (hb : ButS S w w1) (hn : ∀ x, a = some x → x.block ∉ S) : RowAt w1 k (.slice a n cap) n cs := by
  obtain ⟨h0, h | ⟨g, o, cap', h1, h2, h3, h4, h5⟩⟩ := h
  · exact ⟨h0, .inl h⟩
  · simp only [Value.slice.injEq] at h1
    obtain ⟨rfl, _, rfl⟩ := h1
    exact ⟨h0, .inr ⟨g, o, cap, rfl, h2, h3, Nat.lt_of_lt_of_le h4 hb.size, fun i hi => (hb.cell h4 (hn _ rfl)).trans (h5 i hi)⟩⟩
def i64s (ws : List Int) : List Value := ws.map (Value.int .i64)
end
section
/-- Where a channel's words lie: its source's and its destination's first word, a message's words, the period. -/
structure Plc where
  (src rd words period : Int)
def Plc.slot (p : Plc) (pair : Int) : Int := p.src + 1 + pair
def ldW (ws : List Int) (a : Int) : Int := ws.getD a.toNat 0
def stW (ws : List Int) (a v : Int) : List Int := ws.set a.toNat v
structure DidV where
  (done : Bool := false) (code : Int := 0) (data : List Int := []) (valid : Bool := false) (count : Int := 0) (mark : Bool := false) (ring : Bool := false) (stamped : Bool := false) (buffer : Int := 0)
structure Wr where
  (pc : Nat) (data : List Int) (pair index : Int) (i : Nat) (marked : Bool)
structure Rdr where
  (pc : Nat) (pair index : Int) (left : Nat) (stamp : Int) (data : List Int)
theorem ldW_st (ws : List Int) (a b v : Int) (h : a.toNat ≠ b.toNat) : ldW (stW ws a v) b = ldW ws b := by
  simp only [ldW, stW, List.getD_eq_getElem?_getD, List.getElem?_set_ne h]
theorem ldW_same (ws : List Int) (a v : Int) (h : a.toNat < ws.length) : ldW (stW ws a v) a = v := by
  simp [ldW, stW, h]
/-- The places are right: the reading word lies behind the source's, all lie within n words. -/
structure Plc.ok (p : Plc) (n : Nat) : Prop where
  src : 0 ≤ p.src
  words : 1 ≤ p.words
  rd : p.src + 3 + 4 * (2 + p.words) ≤ p.rd
  len : p.rd < n
def bit (x : Int) : Prop := x = 0 ∨ x = 1
/-- What holds between any two steps: the pairs, the slots, the reading word. -/
structure Inv (p : Plc) (ws : List Int) (w : Wr) (r : Rdr) : Prop where
  wp : bit w.pair
  wi : bit w.index
  rp : bit r.pair
  ri : bit r.index
  tell : 2 ≤ r.pc → r.pc ≤ 5 → ldW ws p.rd % 2 = r.pair
  slot : 2 ≤ w.pc → w.pc ≤ 5 → ldW ws (p.slot w.pair) % 2 = 1 - w.index
  same : 1 ≤ w.pc → w.pc ≤ 5 → 3 ≤ r.pc → r.pc ≤ 5 → w.pair = r.pair → ldW ws (p.slot w.pair) % 2 = r.index
theorem Inv.apart {p : Plc} {ws : List Int} {w : Wr} {r : Rdr} (h : Inv p ws w r) (h1 : 2 ≤ w.pc) (h2 : w.pc ≤ 5) (h3 : 3 ≤ r.pc) (h4 : r.pc ≤ 5) : ¬ (w.pair = r.pair ∧ w.index = r.index) := by
  rintro ⟨e1, e2⟩
  have a := h.slot h1 h2
  have b := h.same (by omega) h2 h3 h4 e1
  omega
end
section
open Go.RowKit
set_option linter.unusedSimpArgs false
set_option linter.unusedVariables false

def u32s (ws : List Int) : List Value := ws.map (Value.int .u32)
theorem u32s_len (ws : List Int) : (u32s ws).length = ws.length := by simp [u32s]
theorem u32s_at (ws : List Int) (i : Nat) (h : i < ws.length) : (u32s ws)[i]? = some (.int .u32 ws[i]) := by simp [u32s, h]
theorem u32s_set (ws : List Int) (i : Nat) (v : Int) : (u32s ws).set i (.int .u32 v) = u32s (ws.set i v) := by simp [u32s, List.map_set]
theorem u32s_one (ws : List Int) : ∀ v ∈ u32s ws, v.oneCell' = true := by
  intro v hv
  obtain ⟨x, _, rfl⟩ := List.mem_map.1 hv
  rfl
/-- A memory lies in block B; its words ws in block D. -/
structure MemAt (w : World) (B D : Nat) (ws : List Int) : Prop where
  head : w.heap[B]? = some (.cells #[.slice (some ⟨D, 0, none⟩) ws.length ws.length] 101 (0, 0))
  words : w.heap[D]? = some (.cells (u32s ws).toArray 41 (0, 0))
  len : ws.length ≤ 65536
theorem MemAt.ne {w : World} {B D : Nat} {ws : List Int} (h : MemAt w B D ws) : B ≠ D := fun e => by
  have h1 := h.head
  rw [e, h.words] at h1
  simp at h1
theorem MemAt.below {w w1 : World} {B D : Nat} {ws : List Int} (h : MemAt w B D ws) (hb : Below w.heap.size w w1) : MemAt w1 B D ws := ⟨blk_below h.head hb, blk_below h.words hb, h.len⟩
theorem MemAt.al {w : World} {B D : Nat} {ws : List Int} (h : MemAt w B D ws) (o : Obj) : MemAt (w.alloc o) B D ws := ⟨blk_al h.head o, blk_al h.words o, h.len⟩
theorem MemAt.set {w : World} {B D : Nat} {ws : List Int} (h : MemAt w B D ws) (i : Nat) (v : Int) : MemAt (w.setCell ⟨D, i, none⟩ (.int .u32 v)) B D (ws.set i v) :=
  ⟨by rw [List.length_set]; exact blk_set_ne h.head h.ne _, by
    have h1 := blk_set h.words i (.int .u32 v)
    rwa [List.setIfInBounds_toArray, u32s_set] at h1, by rw [List.length_set]; exact h.len⟩
theorem MemAt.slice {w : World} {B D : Nat} {ws : List Int} (h : MemAt w B D ws) : w.cell? ⟨B, 0, none⟩ = some (.slice (some ⟨D, 0, none⟩) ws.length ws.length) := (cell_blk h.head 0).trans rfl
theorem MemAt.cell {w : World} {B D : Nat} {ws : List Int} (h : MemAt w B D ws) {i : Nat} (hi : i < ws.length) : w.cell? ⟨D, i, none⟩ = some (.int .u32 ws[i]) := by
  rw [cell_blk h.words i]
  simp [u32s, hi]
theorem MemAt.free {w : World} {B D : Nat} {ws : List Int} (h : MemAt w B D ws) (i : Nat) : w.frozen? ⟨D, i, none⟩ = false := frozen_blk h.words i

theorem madeCells_rep (z : Value) (n : Nat) : madeCells #[z] n = (List.replicate n z).toArray := by
  have h := toList_madeCells_one z n
  rw [← h]

theorem Tryz.infoU32 : (Tryz.prog.info? 41).map (fun i => (i.zero, i.size, i.bytes)) = some (some (.int .u32 0), 1, 4) := by kernel_rfl

set_option maxHeartbeats 400000 in
theorem memNew_any (n : Nat) (hn : n ≤ 65536) (w : World) : Calls Tryz.prog 13 #[.int .i64 n] w fun e w' =>
    ∃ B D, e = .returned (.tuple #[.pointer (some ⟨B, 0, none⟩), .int .i64 0]) ∧ Kp (MemAt w' B D (List.replicate n 0)) ∧ Below w.heap.size w w' ∧ w.heap.size ≤ B ∧ w.heap.size ≤ D := by
  have hmk := fun w => run_make_row' (P := Tryz.prog) 44 41 (.int .u32 0) 4 Tryz.underlying44 Tryz.infoU32 rfl .i64 .i64 n (by omega) (by omega) w
  go_enter Tryz.func13, Tryz.ntmps13
  go_wp2
  go_ret2
  refine ⟨_, _, rfl, ⟨⟨?_, ?_, by simpa using hn⟩⟩, below_al (below_al (Below.refl _ _) _) _, by simp, Nat.le_refl _⟩
  · rw [List.length_replicate]
    exact blk_at (w := w.alloc _) (by simp) _
  · rw [madeCells_rep]
    refine blk_al ?_ _
    rw [u32s, List.map_replicate]
    exact blk_new w _

set_option maxHeartbeats 400000 in
theorem memThere_any (B D : Nat) (ws : List Int) (x : Int) (b : Bool) (hb : decide (x < (ws.length : Int)) = b) (w : World) (h : MemAt w B D ws) : Calls Tryz.prog 50 #[.pointer (some ⟨B, 0, none⟩), .int .u64 x] w fun e w' => e = .returned (.bool b) ∧ w' = w := by
  subst hb
  have h1 := h.slice
  have h2 := h.len
  clear h
  go_enter Tryz.func50, Tryz.ntmps50
  go_wp2
  go_ret
  exact ⟨rfl, rfl⟩

set_option maxHeartbeats 400000 in
theorem memLoad_in (B D : Nat) (ws : List Int) (i : Nat) (hi : i < ws.length) (w : World) (h : MemAt w B D ws) : Calls Tryz.prog 89 #[.pointer (some ⟨B, 0, none⟩), .int .u64 i] w fun e w' => e = .returned (.tuple #[.int .u32 ws[i], .int .i64 0]) ∧ w' = w := by
  have h1 := h.slice
  have h2 := h.len
  have h3 := h.cell hi
  have H := Kp.mk h
  clear h
  go_enter Tryz.func89, Tryz.ntmps89
  go_wp2_with (go_at_call 50; refine (memThere_any _ _ _ _ true (decide_eq_true (by omega)) _ H.out).mono ?_; rintro e w' ⟨rfl, rfl⟩)
  go_ret2
  exact ⟨rfl, rfl⟩

set_option maxHeartbeats 400000 in
theorem memStore_in (B D : Nat) (ws : List Int) (i : Nat) (v : Int) (hi : i < ws.length) (w : World) (h : MemAt w B D ws) : Calls Tryz.prog 22 #[.pointer (some ⟨B, 0, none⟩), .int .u64 i, .int .u32 v] w fun e w' => e = .returned (.int .i64 0) ∧ w' = w.setCell ⟨D, i, none⟩ (.int .u32 v) := by
  have h1 := h.slice
  have h2 := h.len
  have h3 := h.cell hi
  have h4 := h.free i
  have H := Kp.mk h
  clear h
  go_enter Tryz.func22, Tryz.ntmps22
  go_wp2_with (go_at_call 50; refine (memThere_any _ _ _ _ true (decide_eq_true (by omega)) _ H.out).mono ?_; rintro e w' ⟨rfl, rfl⟩)
  go_ret
  exact ⟨rfl, rfl⟩
end
section
open Go.ChangeShapes Go.WideShapes Go.ChangeAt Go.RowKit Go.Deep
open Go.ChangeMaps (open_string shut_string)

/-- The shape of a type of plain data: whole numbers, bools, strings, slices (of elements of n cells); structs and arrays: a chain of parts, each with its number of cells. -/
inductive Sh where
  | int (k : IntKind) | bool | str
  | slice (n : Nat) (s : Sh)
  | nil | pair (n : Nat) (a r : Sh)

/-- Some cells read as data of a shape. -/
def Rd (w : World) : Sh → List Value → Prop
  | .int k, cs => ∃ n, cs = [.int k n] ∧ (Lit.int k n).wf = true
  | .bool, cs => ∃ b, cs = [.bool b]
  | .str, cs => ∃ s, cs = [.string s] ∧ s.size ≤ maxLen
  | .slice n s, cs => cs = [.slice none 0 0] ∨ ∃ (a : Addr) (len cap : Nat) (xs : Nat → List Value), cs = [.slice (some a) len cap] ∧ len ≤ cap ∧ cap ≤ maxLen ∧
      ∀ i, i < len → (xs i).length = n ∧ (∀ j, j < n → w.cell? (a.add (i * n + j)) = (xs i)[j]?) ∧ Rd w s (xs i)
  | .nil, cs => cs = []
  | .pair n a r, cs => n ≤ cs.length ∧ Rd w a (cs.take n) ∧ Rd w r (cs.drop n)

/-- What a chain of parts is held against: the fields of a struct from an offset on, or so many elements of an array. -/
inductive Tg where
  | ty (t : TypeId) | fs (l : List Field) (off tot : Nat) | arr (m : Nat) (e : TypeId)

def Sh.ok (P : Program) : Sh → Tg → Bool
  | .int k, .ty t => match P.underlying t with | some (.int k') => k' == k | _ => false
  | .bool, .ty t => match P.underlying t with | some .bool => true | _ => false
  | .str, .ty t => match P.underlying t with | some .string => true | _ => false
  | .slice n s, .ty t => match P.underlying t with | some (.slice e) => (P.cellsOf e == n) && s.ok P (.ty e) | _ => false
  | .pair n a r, .ty t => match P.underlying t with
    | some (.struct fs) => match fs.toList with
      | f :: l => f.offset == 0 && (P.cellsOf f.type == n) && decide (n ≤ P.cellsOf t) && a.ok P (.ty f.type) && r.ok P (.fs l n (P.cellsOf t))
      | [] => false
    | some (.array m e) => m != 0 && (P.cellsOf t == m * n) && (P.cellsOf e == n) && a.ok P (.ty e) && r.ok P (.arr (m - 1) e)
    | _ => false
  | .nil, .fs l off tot => l.isEmpty && off == tot
  | .pair n a r, .fs l off tot => match l with
      | f :: l => f.offset == off && (P.cellsOf f.type == n) && decide (off + n ≤ tot) && a.ok P (.ty f.type) && r.ok P (.fs l (off + n) tot)
      | [] => false
  | .nil, .arr m _ => m == 0
  | .pair n a r, .arr m e => m != 0 && (P.cellsOf e == n) && a.ok P (.ty e) && r.ok P (.arr (m - 1) e)
  | _, _ => false

section
variable {H : Type} {enc : TypeId × Value → H} {P : Program} {w : World} {base : Nat} {held : Bool}

/-- What is known of the cells at a target. -/
def AtTg (enc : TypeId × Value → H) (P : Program) (w : World) (base : Nat) (held : Bool) (fuel : Nat) (cs : List Value) : Tg → Prop
  | .ty t => ∃ x, DataW.trod enc P w base (fun _ => true) held fuel t cs = some x
  | .fs l off tot => off + cs.length = tot ∧ ∀ f ∈ l, off ≤ f.offset → ∃ x, DataW.trod enc P w base (fun _ => true) held fuel f.type ((cs.drop (f.offset - off)).take (P.cellsOf f.type)) = some x
  | .arr m e => cs.length = m * P.cellsOf e ∧ ∀ i, i < m → ∃ x, DataW.trod enc P w base (fun _ => true) held fuel e ((cs.drop (i * P.cellsOf e)).take (P.cellsOf e)) = some x

theorem rd_of_trod (sh : Sh) : ∀ (tg : Tg) (fuel : Nat) (cs : List Value), sh.ok P tg = true → AtTg enc P w base held fuel cs tg → Rd w sh cs := by
  induction sh with
  | int k =>
    intro tg fuel cs hok h
    obtain ⟨t, rfl⟩ : ∃ t, tg = .ty t := by
      cases tg with
      | ty t => exact ⟨t, rfl⟩
      | fs l off tot => exact Bool.noConfusion (show false = true from hok)
      | arr m e => exact Bool.noConfusion (show false = true from hok)
    simp only [Sh.ok] at hok
    split at hok <;> simp at hok
    subst hok
    obtain ⟨x, hx⟩ := h
    obtain ⟨n, h1, _, h3⟩ := DataW.trod_int (by assumption) hx
    exact ⟨n, h1, h3⟩
  | bool =>
    intro tg fuel cs hok h
    obtain ⟨t, rfl⟩ : ∃ t, tg = .ty t := by
      cases tg with
      | ty t => exact ⟨t, rfl⟩
      | fs l off tot => exact Bool.noConfusion (show false = true from hok)
      | arr m e => exact Bool.noConfusion (show false = true from hok)
    simp only [Sh.ok] at hok
    split at hok <;> simp at hok
    obtain ⟨x, hx⟩ := h
    obtain ⟨b, h1, _⟩ := DataW.trod_bool (by assumption) hx
    exact ⟨b, h1⟩
  | str =>
    intro tg fuel cs hok h
    obtain ⟨t, rfl⟩ : ∃ t, tg = .ty t := by
      cases tg with
      | ty t => exact ⟨t, rfl⟩
      | fs l off tot => exact Bool.noConfusion (show false = true from hok)
      | arr m e => exact Bool.noConfusion (show false = true from hok)
    simp only [Sh.ok] at hok
    split at hok <;> simp at hok
    obtain ⟨x, hx⟩ := h
    obtain ⟨s, h1, _, h3⟩ := DataW.trod_string (by assumption) hx
    exact ⟨s, h1, h3⟩
  | slice n s ih =>
    intro tg fuel cs hok h
    obtain ⟨t, rfl⟩ : ∃ t, tg = .ty t := by
      cases tg with
      | ty t => exact ⟨t, rfl⟩
      | fs l off tot => exact Bool.noConfusion (show false = true from hok)
      | arr m e => exact Bool.noConfusion (show false = true from hok)
    simp only [Sh.ok] at hok
    split at hok <;> simp at hok
    rename_i e ht
    obtain ⟨hn, hs⟩ := hok
    obtain ⟨x, hx⟩ := h
    rcases open_slice ht hx with ⟨h0, _⟩ | ⟨a, len, cap, m, n', D, Pl, rfl, _, hl, hm, hmm, _, hall⟩
    · exact .inl h0
    · right
      obtain rfl : m = cap := by simpa using hmm
      have hch : ∀ i, ∃ ys : List Value, i < len → (ys.length = n ∧ (∀ j, j < n → w.cell? (a.add (i * n + j)) = ys[j]?) ∧ Rd w s ys) := by
        intro i
        by_cases hi : i < len
        · obtain ⟨ys, h1, h2⟩ := hall i (by omega)
          obtain ⟨_, g1, g2⟩ := World.cells?_some h1
          refine ⟨ys, fun _ => ⟨g1.trans hn, fun j hj => ?_, ih (.ty e) n' ys hs ⟨_, h2⟩⟩⟩
          rw [← g2 j (by omega), add_add, hn]
        · exact ⟨[], fun h => absurd h hi⟩
      exact ⟨a, len, _, fun i => Classical.choose (hch i), rfl, hl, hm, fun i hi => Classical.choose_spec (hch i) hi⟩
  | nil =>
    intro tg fuel cs hok h
    cases tg with
    | ty t => exact Bool.noConfusion (show false = true from hok)
    | fs l off tot =>
      simp [Sh.ok] at hok
      have := h.1
      exact List.length_eq_zero_iff.1 (by omega)
    | arr m e =>
      simp [Sh.ok] at hok
      have := h.1
      subst hok
      exact List.length_eq_zero_iff.1 (by simpa using this)
  | pair n a r iha ihr =>
    -- the chain of a struct's fields
    have hfs : ∀ (l : List Field) (off tot fuel : Nat) (cs : List Value), (Sh.pair n a r).ok P (.fs l off tot) = true → AtTg enc P w base held fuel cs (.fs l off tot) → Rd w (.pair n a r) cs := by
      intro l off tot fuel cs hok h
      simp only [Sh.ok] at hok
      split at hok <;> simp at hok
      rename_i f l
      obtain ⟨⟨⟨⟨h1, h2⟩, h5⟩, h3⟩, h4⟩ := hok
      obtain ⟨g1, g2⟩ := h
      obtain ⟨x, hx⟩ := g2 f (by simp) (by omega)
      refine ⟨by omega, ?_, ?_⟩
      · rw [h1, Nat.sub_self, List.drop_zero, h2] at hx
        exact iha (.ty f.type) fuel _ h3 ⟨x, hx⟩
      · refine ihr (.fs l (off + n) tot) fuel _ h4 ⟨by rw [List.length_drop]; omega, fun f' hf' ho => ?_⟩
        obtain ⟨x', hx'⟩ := g2 f' (by simp [hf']) (by omega)
        refine ⟨x', ?_⟩
        rw [List.drop_drop, show n + (f'.offset - (off + n)) = f'.offset - off by omega]
        exact hx'
    have harr : ∀ (m : Nat) (e : TypeId) (fuel : Nat) (cs : List Value), (Sh.pair n a r).ok P (.arr m e) = true → AtTg enc P w base held fuel cs (.arr m e) → Rd w (.pair n a r) cs := by
      intro m e fuel cs hok h
      simp [Sh.ok] at hok
      obtain ⟨⟨⟨h0, h2⟩, h3⟩, h4⟩ := hok
      obtain ⟨g1, g2⟩ := h
      obtain ⟨m, rfl⟩ : ∃ m', m = m' + 1 := ⟨m - 1, by omega⟩
      rw [h2] at g1 g2
      have g1' : cs.length = m * n + n := by rw [g1, Nat.succ_mul]
      obtain ⟨x, hx⟩ := g2 0 (by omega)
      refine ⟨by omega, ?_, ?_⟩
      · rw [Nat.zero_mul, List.drop_zero] at hx
        exact iha (.ty e) fuel _ h3 ⟨x, hx⟩
      · refine ihr (.arr m e) fuel _ h4 ⟨by rw [List.length_drop, h2]; omega, fun i hi => ?_⟩
        obtain ⟨x', hx'⟩ := g2 (i + 1) (by omega)
        refine ⟨x', ?_⟩
        rw [h2, List.drop_drop, show n + i * n = (i + 1) * n by rw [Nat.succ_mul]; omega]
        exact hx'
    intro tg fuel cs hok h
    cases tg with
    | ty t =>
      simp only [Sh.ok] at hok
      obtain ⟨x, hx⟩ := h
      split at hok
      · rename_i fs ht
        split at hok
        · rename_i f l hfl
          obtain ⟨xs, n', rfl, _, hl, hxl, hall⟩ := DataW.trod_struct ht hx
          have hok' : (Sh.pair n a r).ok P (.fs fs.toList 0 (P.cellsOf t)) = true := by
            simp only [Sh.ok, hfl, Nat.zero_add]
            exact hok
          refine hfs fs.toList 0 (P.cellsOf t) n' cs hok' ⟨by omega, fun f' hf' _ => ?_⟩
          obtain ⟨i, hi, rfl⟩ := List.getElem_of_mem hf'
          have hi' : i < fs.size := by simpa using hi
          have h2 := hall i fs[i] (by simp [hi'])
          have hix : i < xs.length := by omega
          rw [List.getElem?_eq_getElem hix] at h2
          exact ⟨_, by simpa using h2⟩
        · simp at hok
      · rename_i m e ht
        simp at hok
        obtain ⟨⟨⟨⟨h0, h1⟩, h2⟩, h3⟩, h4⟩ := hok
        obtain ⟨xs, n', rfl, _, hl, hxl, hall⟩ := DataW.trod_array ht hx
        refine harr m e n' cs (by simp [Sh.ok, h0, h2, h3, h4]) ⟨by rw [hl, h1, h2], fun i hi => ?_⟩
        have h5 := hall i hi
        rw [List.getElem?_eq_getElem (by omega)] at h5
        exact ⟨_, h5⟩
      · simp at hok
    | fs l off tot => exact hfs l off tot fuel cs hok h
    | arr m e => exact harr m e fuel cs hok h

/-- A value reads as data of a shape. -/
def RdV (w : World) (sh : Sh) (v : Value) : Prop :=
  match sh with
  | .int k => ∃ n, v = .int k n ∧ (Lit.int k n).wf = true
  | .bool => ∃ b, v = .bool b
  | .str => ∃ s, v = .string s ∧ s.size ≤ maxLen
  | .slice n s => Rd w (.slice n s) [v]
  | .nil => ∃ cs : List Value, v = .agg cs.toArray ∧ Rd w .nil cs
  | .pair n a r => ∃ cs : List Value, v = .agg cs.toArray ∧ Rd w (.pair n a r) cs

theorem rdv_of (sh : Sh) {r : Reach} {b0 : Nat} {t : TypeId} {v : Value} {d : DataW H} {ps : List MemPlace} (hok : sh.ok P (.ty t) = true) (hval : Value.okWide P w r b0 t v)
    (hd : DataW.Trod enc P w base (fun _ => true) held t v d ps) : RdV w sh v := by
  cases sh with
  | int k =>
    simp only [Sh.ok] at hok
    split at hok <;> simp at hok
    subst hok
    obtain ⟨n, h1, _, _, h2⟩ := open_int (by assumption) hval hd
    exact ⟨n, h1, h2⟩
  | bool =>
    simp only [Sh.ok] at hok
    split at hok <;> simp at hok
    obtain ⟨n, h1, _⟩ := open_bool (by assumption) hval hd
    exact ⟨n, h1⟩
  | str =>
    simp only [Sh.ok] at hok
    split at hok <;> simp at hok
    obtain ⟨n, h1, _, _, h2⟩ := open_string (by assumption) hval hd
    exact ⟨n, h1, h2⟩
  | slice n s =>
    have hok' := hok
    simp only [Sh.ok] at hok
    split at hok <;> simp at hok
    obtain ⟨a, len, cap, rfl⟩ := okWide_slice (by assumption) hval
    obtain ⟨fuel, hf⟩ := hd
    exact rd_of_trod (.slice n s) (.ty t) fuel _ hok' ⟨_, hf⟩
  | nil => exact Bool.noConfusion (show false = true from hok)
  | pair n a r =>
    have hok' := hok
    simp only [Sh.ok] at hok
    obtain ⟨fuel, hf⟩ := hd
    split at hok
    · obtain ⟨cs, rfl, _⟩ := okWide_struct (by assumption) hval
      exact ⟨cs.toList, rfl, rd_of_trod (.pair n a r) (.ty t) fuel _ hok' ⟨_, hf⟩⟩
    · rename_i ht
      simp only [Value.okWide, ht] at hval
      obtain ⟨cs, rfl, _, _⟩ := hval
      exact ⟨cs.toList, rfl, rd_of_trod (.pair n a r) (.ty t) fuel _ hok' ⟨_, hf⟩⟩
    · simp at hok

theorem trodAll_below (hl : laidOutB P = true) {W W' : World} (hb : Below W.heap.size W W') : ∀ (ts : List TypeId) (vs : List Value) (ds : List (DataW H)) (ps : List MemPlace),
    (ts.all fun t => P.readableRec t && decide (t < P.types.size)) = true → DataW.TrodAll enc P W 0 (fun _ => true) true ts vs ds ps → DataW.TrodAll enc P W' 0 (fun b => decide (b < W.heap.size)) true ts vs ds ps
  | [], [], [], ps, _, h => h
  | t :: ts, v :: vs, d :: ds, ps, hok, h => by
    obtain ⟨p, q, h1, h2, rfl⟩ := h
    simp only [List.all_cons, Bool.and_eq_true, decide_eq_true_eq] at hok
    refine ⟨p, q, Below.trod hl hok.1.1 hok.1.2 h1 hb ?_, trodAll_below hl hb ts vs ds q hok.2 h2, rfl⟩
    obtain ⟨m, hm⟩ := h1
    exact DataW.trod_lt m _ _ _ hm
  | [], _ :: _, _, _, _, h => h.elim
  | [], [], _ :: _, _, _, h => h.elim
  | _ :: _, [], _, _, _, h => h.elim
  | _ :: _, _ :: _, [], _, _, h => h.elim
end
/-- A part of one cell ahead of others. -/
theorem rd_one {w : World} {a r : Sh} {cs : List Value} (h : Rd w (.pair 1 a r) cs) : ∃ c cs', cs = c :: cs' ∧ Rd w a [c] ∧ Rd w r cs' := by
  obtain ⟨h1, h2, h3⟩ := h
  cases cs with
  | nil => simp at h1
  | cons c cs' => exact ⟨c, cs', rfl, h2, h3⟩
theorem rd_nil {w : World} {cs : List Value} (h : Rd w .nil cs) : cs = [] := h
theorem rd_int {w : World} {k : IntKind} {c : Value} (h : Rd w (.int k) [c]) : ∃ n, c = .int k n ∧ (Lit.int k n).wf = true := by
  obtain ⟨n, h1, h2⟩ := h
  exact ⟨n, by simpa using h1, h2⟩
/-- A slice of elements of one cell at least: nothing in it, or its cells. -/
theorem rd_slice {w : World} {n : Nat} {s : Sh} {v : Value} (h : RdV w (.slice (n + 1) s) v) : ∃ (a : Option Addr) (len cap : Nat) (xs : Nat → List Value), v = .slice a len cap ∧ len ≤ cap ∧ cap ≤ maxLen ∧
    (len = 0 ∨ ∃ b o, a = some ⟨b, o, none⟩ ∧ b < w.heap.size ∧ ∀ i, i < len → (xs i).length = n + 1 ∧ (∀ j, j < n + 1 → w.cell? ⟨b, o + (i * (n + 1) + j), none⟩ = (xs i)[j]?) ∧ Rd w s (xs i)) := by
  rcases h with h | ⟨a, len, cap, xs, h1, h2, h3, h4⟩
  · simp at h
    exact ⟨none, 0, 0, fun _ => [], h, Nat.le_refl _, Nat.zero_le _, .inl rfl⟩
  · simp at h1
    subst h1
    refine ⟨some a, len, cap, xs, rfl, h2, h3, ?_⟩
    rcases Nat.eq_zero_or_pos len with h0 | h0
    · exact .inl h0
    · right
      obtain ⟨g1, g2, _⟩ := h4 0 h0
      have e0 := g2 0 (by omega)
      rw [Nat.zero_mul, List.getElem?_eq_getElem (by omega)] at e0
      have e1 : w.cell? a = some (xs 0)[0] := by simpa [Addr.add] using e0
      have hsp : a.spot = none := by
        cases hs : a.spot with
        | none => rfl
        | some s => simp [World.cell?, hs] at e1; split at e1 <;> simp at e1
      obtain ⟨b, o, sp⟩ := a
      simp at hsp
      subst hsp
      refine ⟨b, o, rfl, World.block_lt_of_cell? w ⟨b, o, none⟩ e1, fun i hi => ?_⟩
      obtain ⟨k1, k2, k3⟩ := h4 i hi
      refine ⟨k1, fun j hj => ?_, k3⟩
      rw [← k2 j hj]
      unfold Addr.add
      split
      · rename_i hz; rw [hz]; rfl
      · rfl
theorem laidOut : laidOutB Tryz.prog = true := by kernel_rfl
theorem ownKnobs : ownKnob Tryz.prog.godebug = none := by kernel_rfl
end
section
open Go.RowKit
set_option linter.unusedSimpArgs false
set_option linter.unusedVariables false

/-- The cells of a row of structs of k cells. -/
theorem flat_len {α : Type} (f : α → List Value) (k : Nat) (hf : ∀ x, (f x).length = k) (l : List α) : (l.flatMap f).length = l.length * k := by
  induction l with
  | nil => simp
  | cons x l ih => rw [List.flatMap_cons, List.length_append, hf, ih, List.length_cons, Nat.add_mul]; omega
theorem flat_at {α : Type} (f : α → List Value) (k : Nat) (hf : ∀ x, (f x).length = k) (l : List α) (i j : Nat) (hi : i < l.length) (hj : j < k) : (l.flatMap f)[i * k + j]? = (f l[i])[j]? := by
  induction l generalizing i with
  | nil => simp at hi
  | cons x l ih =>
    rw [List.flatMap_cons]
    cases i with
    | zero => rw [Nat.zero_mul, Nat.zero_add, List.getElem?_append_left (by rw [hf]; exact hj)]; rfl
    | succ i =>
      have h1 : (i + 1) * k = k + i * k := by rw [Nat.add_mul]; omega
      rw [List.getElem?_append_right (by rw [hf, h1]; omega), hf, h1, show k + i * k + j - k = i * k + j by omega, ih i (by simpa using hi)]
      rfl
/-- A slice of structs, each read by 'hd'. -/
theorem rows_of {α : Type} [Inhabited α] {w : World} {n : Nat} {s : Sh} {v : Value} (f : α → List Value) (ok : α → Prop) (hd : ∀ cs, cs.length = n + 1 → Rd w s cs → ∃ x, cs = f x ∧ ok x) (hf : ∀ x, (f x).length = n + 1)
    (h : RdV w (.slice (n + 1) s) v) : ∃ l : List α, RowAt w (n + 1) v l.length (l.flatMap f) ∧ ∀ x ∈ l, ok x := by
  obtain ⟨a, len, cap, F, rfl, h1, h2, h3⟩ := rd_slice h
  by_cases hn : len = 0
  · subst hn
    exact ⟨[], ⟨by simp, .inl ⟨⟨a, cap, rfl, h2⟩, rfl⟩⟩, by simp⟩
  rcases h3 with h3 | ⟨b, o, rfl, hb, hF⟩
  · exact absurd h3 hn
  · have hX : ∀ i, ∃ x : α, i < len → F i = f x ∧ ok x := fun i => by
      by_cases hi : i < len
      · obtain ⟨h4, h5, h6⟩ := hF i hi
        obtain ⟨x, hx⟩ := hd _ h4 h6
        exact ⟨x, fun _ => hx⟩
      · exact ⟨default, fun h => absurd h hi⟩
    obtain ⟨X, hX⟩ := Classical.axiomOfChoice hX
    have hl : ((List.range len).map X).length = len := by simp
    refine ⟨(List.range len).map X, ⟨flat_len f _ hf _, .inr ⟨b, o, cap, by rw [hl], by rw [hl]; exact h1, h2, hb, fun q hq => ?_⟩⟩, fun x hx => ?_⟩
    · rw [hl] at hq
      have hi : q / (n + 1) < len := Nat.div_lt_of_lt_mul (by rw [Nat.mul_comm]; exact hq)
      have hj : q % (n + 1) < n + 1 := Nat.mod_lt _ (by omega)
      have hq2 : q = q / (n + 1) * (n + 1) + q % (n + 1) := by rw [Nat.mul_comm]; exact (Nat.div_add_mod q (n + 1)).symm
      generalize q / (n + 1) = i at hi hq2
      generalize q % (n + 1) = j at hj hq2
      subst hq2
      rw [(hF i hi).2.1 j hj, flat_at f _ hf _ i j (by rw [hl]; exact hi) hj, (hX i hi).1]
      simp
    · obtain ⟨i, hi, rfl⟩ := List.mem_map.1 hx
      exact (hX i (by simpa using hi)).2
/-- A number that fits int. -/
def I64 (n : Int) : Prop := (Lit.int .i64 n).wf = true
theorem I64.le {n : Int} (h : I64 n) : -9223372036854775808 ≤ n ∧ n ≤ 9223372036854775807 := bounds_i64 h

structure Chn where
  (kind frm to words depth period boot : Int)
instance : Inhabited Chn := ⟨⟨0, 0, 0, 0, 0, 0, 0⟩⟩
structure Win where
  (part start len : Int)
instance : Inhabited Win := ⟨⟨0, 0, 0⟩⟩
def partC (p : Int × Int) : List Value := [.int .i64 p.1, .int .i64 p.2]
def chanC (x : Chn) : List Value := [.int .i64 x.kind, .int .i64 x.frm, .int .i64 x.to, .int .i64 x.words, .int .i64 x.depth, .int .i64 x.period, .int .u32 x.boot]
def winC (x : Win) : List Value := [.int .i64 x.part, .int .i64 x.start, .int .i64 x.len]
def Chn.ok (x : Chn) : Prop := I64 x.kind ∧ I64 x.frm ∧ I64 x.to ∧ I64 x.words ∧ I64 x.depth ∧ I64 x.period ∧ (Lit.int .u32 x.boot).wf = true
def Win.ok (x : Win) : Prop := I64 x.part ∧ I64 x.start ∧ I64 x.len
/-- A configuration. -/
structure Cfg where
  (parts : List (Int × Int)) (chans : List Chn) (l0 : Int) (w0 : List Win) (l1 : Int) (w1 : List Win)
def Cfg.ok (C : Cfg) : Prop := (∀ p ∈ C.parts, I64 p.1 ∧ I64 p.2) ∧ (∀ x ∈ C.chans, x.ok) ∧ I64 C.l0 ∧ I64 C.l1 ∧ (∀ x ∈ C.w0, x.ok) ∧ ∀ x ∈ C.w1, x.ok
/-- Its value, and what lies in memory. -/
def CfgAt (w : World) (v : Value) (C : Cfg) : Prop := C.ok ∧ ∃ pa pc ca cc a0 c0 a1 c1, v = .agg #[.slice pa C.parts.length pc, .slice ca C.chans.length cc, .int .i64 C.l0, .slice a0 C.w0.length c0, .int .i64 C.l1, .slice a1 C.w1.length c1] ∧
  (C.parts.length ≤ pc ∧ pc ≤ maxLen) ∧ (C.chans.length ≤ cc ∧ cc ≤ maxLen) ∧ (C.w0.length ≤ c0 ∧ c0 ≤ maxLen) ∧ (C.w1.length ≤ c1 ∧ c1 ≤ maxLen) ∧
  RowAt w 2 (.slice pa C.parts.length pc) C.parts.length (C.parts.flatMap partC) ∧ RowAt w 7 (.slice ca C.chans.length cc) C.chans.length (C.chans.flatMap chanC) ∧
  RowAt w 3 (.slice a0 C.w0.length c0) C.w0.length (C.w0.flatMap winC) ∧ RowAt w 3 (.slice a1 C.w1.length c1) C.w1.length (C.w1.flatMap winC)
theorem CfgAt.below {w w1 : World} {v : Value} {C : Cfg} (h : CfgAt w v C) (hb : Below w.heap.size w w1) : CfgAt w1 v C := by
  obtain ⟨ho, pa, pc, ca, cc, a0, c0, a1, c1, hv, b1, b2, b3, b4, h1, h2, h3, h4⟩ := h
  exact ⟨ho, pa, pc, ca, cc, a0, c0, a1, c1, hv, b1, b2, b3, b4, h1.below hb, h2.below hb, h3.below hb, h4.below hb⟩
theorem partC_len (p : Int × Int) : (partC p).length = 2 := rfl
theorem chanC_len (p : Chn) : (chanC p).length = 7 := rfl
theorem winC_len (p : Win) : (winC p).length = 3 := rfl
end
section
open Go.RowKit
set_option linter.unusedSimpArgs false
set_option linter.unusedVariables false

/-- A function of the program that is entered when it is called. -/
structure Enters (fn : FuncId) : Prop where
  out : ∀ (args : Array Value) (w : World), (callFunc fn args).run Tryz.prog w = .ok (.enter fn args) w
theorem enters_at {f : FuncId} {fn : Func} {c : Code} (hf : Tryz.prog.funcs[f]? = some fn) (hname : (fn.name == "runtime.NumGoroutine") = false) (hb : fn.body = some c) : Enters f := ⟨fun args w => by
  have h1 : fn.name ≠ "runtime.NumGoroutine" := by simpa using hname
  simp [callFunc, hf, h1, hb]⟩

set_option maxRecDepth 100000 in
set_option maxHeartbeats 2000000 in
theorem partIndex_any (l : List (Int × Int)) (a : Option Addr) (cap : Nat) (fn : FuncId) (caps : Array Value) (p : Int × Int → Bool) (w : World) (h : RowAt w 2 (.slice a l.length cap) l.length (l.flatMap partC)) (hl : l.length ≤ 200)
    (hE : Enters fn) (hf : ∀ w1, Below w.heap.size w w1 → ∀ x ∈ l, Calls Tryz.prog fn (#[.agg #[.int .i64 x.1, .int .i64 x.2]] ++ caps) w1 fun e w' => e = .returned (.bool (p x)) ∧ Below w1.heap.size w1 w') :
    Calls Tryz.prog 157 #[.slice a l.length cap, .func (.func fn) #[] caps] w fun e w' => ∃ r : Int, e = .returned (.int .i64 r) ∧ Kp (decide (0 ≤ r) = l.any p) ∧ Below w.heap.size w w' := by
  have H1 := Kp.mk h
  have HF := Kp.mk hf
  have hE' := hE.out
  clear h hf hE
  go_enter Tryz.func157, Tryz.ntmps157
  go_wp2_with fail
  go_loopw [8] (fun i wr => ∃ k : Nat, k ≤ l.length ∧ i = .int .i64 k ∧ Kp (Below w.heap.size w wr) ∧ Kp ((l.take k).any p = false)) (fun i wr => l.length - (intOf i).toNat)
  case atStart => exact ⟨0, Nat.zero_le _, rfl, ⟨Below.refl _ _⟩, ⟨rfl⟩⟩
  case round =>
    obtain ⟨k, hk, rfl, HB, HN⟩ := hrel
    by_cases hlt : k < l.length
    · obtain ⟨g, o, rfl, hg, hc⟩ := H1.out.at (by omega)
      have hcell : ∀ j, j < 2 → wr.cell? ⟨g, o + k * 2 + j, none⟩ = (partC l[k])[j]? := fun j hj => by
        have h1 := hc (k * 2 + j) (by omega)
        rw [flat_at partC 2 partC_len l k j hlt hj] at h1
        rw [Nat.add_assoc]
        exact (HB.out.cell (p := ⟨g, o + (k * 2 + j), none⟩) hg).trans h1
      have e0 : wr.cell? ⟨g, o + k * 2, none⟩ = some (.int .i64 l[k].1) := hcell 0 (by omega)
      have e1 : wr.cell? ⟨g, o + k * 2 + 1, none⟩ = some (.int .i64 l[k].2) := hcell 1 (by omega)
      have HC := Kp.mk (HF.out wr HB.out l[k] (List.getElem_mem hlt))
      obtain ⟨x, hx⟩ : ∃ x, l[k] = x := ⟨_, rfl⟩
      have HA : Kp ((l.take (k + 1)).any p = ((l.take k).any p || p x)) := ⟨by rw [List.take_succ_eq_append_getElem hlt, List.any_append, hx]; simp⟩
      have HX : Kp (x ∈ l) := ⟨hx ▸ List.getElem_mem hlt⟩
      rw [hx] at HC e0 e1
      clear hc hcell hx
      go_wp2_with fail
      refine HC.out.mono ?_
      cases hp : p x with
      | true =>
        rintro e w1 ⟨rfl, hb1⟩
        have HB1 := Kp.mk (below_call HB.out hb1)
        clear hb1
        go_wp2
        go_ret
        exact ⟨_, rfl, ⟨by
          rw [decide_eq_true (by omega)]
          exact (List.any_eq_true.2 ⟨x, HX.out, hp⟩).symm⟩, HB1.out⟩
      | false =>
        rintro e w1 ⟨rfl, hb1⟩
        have HB1 := Kp.mk (below_call HB.out hb1)
        clear hb1
        have HN1 : Kp ((l.take (k + 1)).any p = false) := ⟨by rw [HA.out, HN.out, hp]; rfl⟩
        go_wp2
        go_roundw
        case rel => exact ⟨k + 1, by omega, by go_num, HB1, HN1⟩
        case measure => simp [intOf]; omega
    · obtain rfl : k = l.length := by omega
      have HN' := HN.out
      rw [List.take_length] at HN'
      have HN2 := Kp.mk HN'
      clear HN'
      go_wp2
      go_ret
      exact ⟨_, rfl, ⟨by rw [HN2.out]; rfl⟩, HB.out⟩

set_option maxHeartbeats 400000 in
theorem partContains_any (l : List (Int × Int)) (a : Option Addr) (cap : Nat) (fn : FuncId) (caps : Array Value) (p : Int × Int → Bool) (b : Bool) (hb : l.any p = b) (w : World) (h : RowAt w 2 (.slice a l.length cap) l.length (l.flatMap partC)) (hl : l.length ≤ 200)
    (hE : Enters fn) (hf : ∀ w1, Below w.heap.size w w1 → ∀ x ∈ l, Calls Tryz.prog fn (#[.agg #[.int .i64 x.1, .int .i64 x.2]] ++ caps) w1 fun e w' => e = .returned (.bool (p x)) ∧ Below w1.heap.size w1 w') :
    Calls Tryz.prog 146 #[.slice a l.length cap, .func (.func fn) #[] caps] w fun e w' => e = .returned (.bool b) ∧ Below w.heap.size w w' := by
  go_enter Tryz.func146, Tryz.ntmps146
  go_wp2_with fail
  refine (partIndex_any l a cap fn caps p _ h hl hE hf).mono ?_
  rintro e w1 ⟨r, rfl, hr, hb1⟩
  go_wp2
  go_ret
  exact ⟨ret_bool (hr.out.trans hb), hb1⟩

set_option maxRecDepth 100000 in
set_option maxHeartbeats 2000000 in
theorem chanIndex_any (l : List (Chn)) (a : Option Addr) (cap : Nat) (fn : FuncId) (caps : Array Value) (p : Chn → Bool) (w : World) (h : RowAt w 7 (.slice a l.length cap) l.length (l.flatMap chanC)) (hl : l.length ≤ 200)
    (hE : Enters fn) (hf : ∀ w1, Below w.heap.size w w1 → ∀ x ∈ l, Calls Tryz.prog fn (#[.agg #[.int .i64 x.kind, .int .i64 x.frm, .int .i64 x.to, .int .i64 x.words, .int .i64 x.depth, .int .i64 x.period, .int .u32 x.boot]] ++ caps) w1 fun e w' => e = .returned (.bool (p x)) ∧ Below w1.heap.size w1 w') :
    Calls Tryz.prog 158 #[.slice a l.length cap, .func (.func fn) #[] caps] w fun e w' => ∃ r : Int, e = .returned (.int .i64 r) ∧ Kp (decide (0 ≤ r) = l.any p) ∧ Below w.heap.size w w' := by
  have H1 := Kp.mk h
  have HF := Kp.mk hf
  have hE' := hE.out
  clear h hf hE
  go_enter Tryz.func158, Tryz.ntmps158
  go_wp2_with fail
  go_loopw [8] (fun i wr => ∃ k : Nat, k ≤ l.length ∧ i = .int .i64 k ∧ Kp (Below w.heap.size w wr) ∧ Kp ((l.take k).any p = false)) (fun i wr => l.length - (intOf i).toNat)
  case atStart => exact ⟨0, Nat.zero_le _, rfl, ⟨Below.refl _ _⟩, ⟨rfl⟩⟩
  case round =>
    obtain ⟨k, hk, rfl, HB, HN⟩ := hrel
    by_cases hlt : k < l.length
    · obtain ⟨g, o, rfl, hg, hc⟩ := H1.out.at (by omega)
      have hcell : ∀ j, j < 7 → wr.cell? ⟨g, o + k * 7 + j, none⟩ = (chanC l[k])[j]? := fun j hj => by
        have h1 := hc (k * 7 + j) (by omega)
        rw [flat_at chanC 7 chanC_len l k j hlt hj] at h1
        rw [Nat.add_assoc]
        exact (HB.out.cell (p := ⟨g, o + (k * 7 + j), none⟩) hg).trans h1
      have e0 : wr.cell? ⟨g, o + k * 7, none⟩ = some (.int .i64 l[k].kind) := hcell 0 (by omega)
      have e1 : wr.cell? ⟨g, o + k * 7 + 1, none⟩ = some (.int .i64 l[k].frm) := hcell 1 (by omega)
      have e2 : wr.cell? ⟨g, o + k * 7 + 2, none⟩ = some (.int .i64 l[k].to) := hcell 2 (by omega)
      have e3 : wr.cell? ⟨g, o + k * 7 + 3, none⟩ = some (.int .i64 l[k].words) := hcell 3 (by omega)
      have e4 : wr.cell? ⟨g, o + k * 7 + 4, none⟩ = some (.int .i64 l[k].depth) := hcell 4 (by omega)
      have e5 : wr.cell? ⟨g, o + k * 7 + 5, none⟩ = some (.int .i64 l[k].period) := hcell 5 (by omega)
      have e6 : wr.cell? ⟨g, o + k * 7 + 6, none⟩ = some (.int .u32 l[k].boot) := hcell 6 (by omega)
      have HC := Kp.mk (HF.out wr HB.out l[k] (List.getElem_mem hlt))
      obtain ⟨x, hx⟩ : ∃ x, l[k] = x := ⟨_, rfl⟩
      have HA : Kp ((l.take (k + 1)).any p = ((l.take k).any p || p x)) := ⟨by rw [List.take_succ_eq_append_getElem hlt, List.any_append, hx]; simp⟩
      have HX : Kp (x ∈ l) := ⟨hx ▸ List.getElem_mem hlt⟩
      rw [hx] at HC e0 e1 e2 e3 e4 e5 e6
      clear hc hcell hx
      go_wp2_with fail
      refine HC.out.mono ?_
      cases hp : p x with
      | true =>
        rintro e w1 ⟨rfl, hb1⟩
        have HB1 := Kp.mk (below_call HB.out hb1)
        clear hb1
        go_wp2
        go_ret
        exact ⟨_, rfl, ⟨by
          rw [decide_eq_true (by omega)]
          exact (List.any_eq_true.2 ⟨x, HX.out, hp⟩).symm⟩, HB1.out⟩
      | false =>
        rintro e w1 ⟨rfl, hb1⟩
        have HB1 := Kp.mk (below_call HB.out hb1)
        clear hb1
        have HN1 : Kp ((l.take (k + 1)).any p = false) := ⟨by rw [HA.out, HN.out, hp]; rfl⟩
        go_wp2
        go_roundw
        case rel => exact ⟨k + 1, by omega, by go_num, HB1, HN1⟩
        case measure => simp [intOf]; omega
    · obtain rfl : k = l.length := by omega
      have HN' := HN.out
      rw [List.take_length] at HN'
      have HN2 := Kp.mk HN'
      clear HN'
      go_wp2
      go_ret
      exact ⟨_, rfl, ⟨by rw [HN2.out]; rfl⟩, HB.out⟩

set_option maxHeartbeats 400000 in
theorem chanContains_any (l : List (Chn)) (a : Option Addr) (cap : Nat) (fn : FuncId) (caps : Array Value) (p : Chn → Bool) (b : Bool) (hb : l.any p = b) (w : World) (h : RowAt w 7 (.slice a l.length cap) l.length (l.flatMap chanC)) (hl : l.length ≤ 200)
    (hE : Enters fn) (hf : ∀ w1, Below w.heap.size w w1 → ∀ x ∈ l, Calls Tryz.prog fn (#[.agg #[.int .i64 x.kind, .int .i64 x.frm, .int .i64 x.to, .int .i64 x.words, .int .i64 x.depth, .int .i64 x.period, .int .u32 x.boot]] ++ caps) w1 fun e w' => e = .returned (.bool (p x)) ∧ Below w1.heap.size w1 w') :
    Calls Tryz.prog 148 #[.slice a l.length cap, .func (.func fn) #[] caps] w fun e w' => e = .returned (.bool b) ∧ Below w.heap.size w w' := by
  go_enter Tryz.func148, Tryz.ntmps148
  go_wp2_with fail
  refine (chanIndex_any l a cap fn caps p _ h hl hE hf).mono ?_
  rintro e w1 ⟨r, rfl, hr, hb1⟩
  go_wp2
  go_ret
  exact ⟨ret_bool (hr.out.trans hb), hb1⟩

set_option maxRecDepth 100000 in
set_option maxHeartbeats 2000000 in
theorem winIndex_any (l : List (Win)) (a : Option Addr) (cap : Nat) (fn : FuncId) (caps : Array Value) (p : Win → Bool) (w : World) (h : RowAt w 3 (.slice a l.length cap) l.length (l.flatMap winC)) (hl : l.length ≤ 200)
    (hE : Enters fn) (hf : ∀ w1, Below w.heap.size w w1 → ∀ x ∈ l, Calls Tryz.prog fn (#[.agg #[.int .i64 x.part, .int .i64 x.start, .int .i64 x.len]] ++ caps) w1 fun e w' => e = .returned (.bool (p x)) ∧ Below w1.heap.size w1 w') :
    Calls Tryz.prog 159 #[.slice a l.length cap, .func (.func fn) #[] caps] w fun e w' => ∃ r : Int, e = .returned (.int .i64 r) ∧ Kp (decide (0 ≤ r) = l.any p) ∧ Below w.heap.size w w' := by
  have H1 := Kp.mk h
  have HF := Kp.mk hf
  have hE' := hE.out
  clear h hf hE
  go_enter Tryz.func159, Tryz.ntmps159
  go_wp2_with fail
  go_loopw [8] (fun i wr => ∃ k : Nat, k ≤ l.length ∧ i = .int .i64 k ∧ Kp (Below w.heap.size w wr) ∧ Kp ((l.take k).any p = false)) (fun i wr => l.length - (intOf i).toNat)
  case atStart => exact ⟨0, Nat.zero_le _, rfl, ⟨Below.refl _ _⟩, ⟨rfl⟩⟩
  case round =>
    obtain ⟨k, hk, rfl, HB, HN⟩ := hrel
    by_cases hlt : k < l.length
    · obtain ⟨g, o, rfl, hg, hc⟩ := H1.out.at (by omega)
      have hcell : ∀ j, j < 3 → wr.cell? ⟨g, o + k * 3 + j, none⟩ = (winC l[k])[j]? := fun j hj => by
        have h1 := hc (k * 3 + j) (by omega)
        rw [flat_at winC 3 winC_len l k j hlt hj] at h1
        rw [Nat.add_assoc]
        exact (HB.out.cell (p := ⟨g, o + (k * 3 + j), none⟩) hg).trans h1
      have e0 : wr.cell? ⟨g, o + k * 3, none⟩ = some (.int .i64 l[k].part) := hcell 0 (by omega)
      have e1 : wr.cell? ⟨g, o + k * 3 + 1, none⟩ = some (.int .i64 l[k].start) := hcell 1 (by omega)
      have e2 : wr.cell? ⟨g, o + k * 3 + 2, none⟩ = some (.int .i64 l[k].len) := hcell 2 (by omega)
      have HC := Kp.mk (HF.out wr HB.out l[k] (List.getElem_mem hlt))
      obtain ⟨x, hx⟩ : ∃ x, l[k] = x := ⟨_, rfl⟩
      have HA : Kp ((l.take (k + 1)).any p = ((l.take k).any p || p x)) := ⟨by rw [List.take_succ_eq_append_getElem hlt, List.any_append, hx]; simp⟩
      have HX : Kp (x ∈ l) := ⟨hx ▸ List.getElem_mem hlt⟩
      rw [hx] at HC e0 e1 e2
      clear hc hcell hx
      go_wp2_with fail
      refine HC.out.mono ?_
      cases hp : p x with
      | true =>
        rintro e w1 ⟨rfl, hb1⟩
        have HB1 := Kp.mk (below_call HB.out hb1)
        clear hb1
        go_wp2
        go_ret
        exact ⟨_, rfl, ⟨by
          rw [decide_eq_true (by omega)]
          exact (List.any_eq_true.2 ⟨x, HX.out, hp⟩).symm⟩, HB1.out⟩
      | false =>
        rintro e w1 ⟨rfl, hb1⟩
        have HB1 := Kp.mk (below_call HB.out hb1)
        clear hb1
        have HN1 : Kp ((l.take (k + 1)).any p = false) := ⟨by rw [HA.out, HN.out, hp]; rfl⟩
        go_wp2
        go_roundw
        case rel => exact ⟨k + 1, by omega, by go_num, HB1, HN1⟩
        case measure => simp [intOf]; omega
    · obtain rfl : k = l.length := by omega
      have HN' := HN.out
      rw [List.take_length] at HN'
      have HN2 := Kp.mk HN'
      clear HN'
      go_wp2
      go_ret
      exact ⟨_, rfl, ⟨by rw [HN2.out]; rfl⟩, HB.out⟩

set_option maxHeartbeats 400000 in
theorem winContains_any (l : List (Win)) (a : Option Addr) (cap : Nat) (fn : FuncId) (caps : Array Value) (p : Win → Bool) (b : Bool) (hb : l.any p = b) (w : World) (h : RowAt w 3 (.slice a l.length cap) l.length (l.flatMap winC)) (hl : l.length ≤ 200)
    (hE : Enters fn) (hf : ∀ w1, Below w.heap.size w w1 → ∀ x ∈ l, Calls Tryz.prog fn (#[.agg #[.int .i64 x.part, .int .i64 x.start, .int .i64 x.len]] ++ caps) w1 fun e w' => e = .returned (.bool (p x)) ∧ Below w1.heap.size w1 w') :
    Calls Tryz.prog 152 #[.slice a l.length cap, .func (.func fn) #[] caps] w fun e w' => e = .returned (.bool b) ∧ Below w.heap.size w w' := by
  go_enter Tryz.func152, Tryz.ntmps152
  go_wp2_with fail
  refine (winIndex_any l a cap fn caps p _ h hl hE hf).mono ?_
  rintro e w1 ⟨r, rfl, hr, hb1⟩
  go_wp2
  go_ret
  exact ⟨ret_bool (hr.out.trans hb), hb1⟩
end
end Go.Proofs.YtmidcnfmphlneaaGreat

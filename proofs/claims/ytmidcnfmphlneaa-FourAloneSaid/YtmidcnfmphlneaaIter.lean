/- Small lemmas on what a round of a loop over an iterator keeps. Nothing of the program. -/
import Derived.Test.YtmidcnfmphlneaaLists
import Derived.RangeFuncNested
import Derived.RangeFuncBound
import Derived.RangeFuncCalls
import Derived.RangeFuncLeaves
import Derived.Shelf.Abstract
import Derived.Shelf.RegionOpen
import Derived.WalkKit
import Derived.OwnWalkIn
import Derived.TacticsInMore
import Derived.LoopNIn
import Derived.LoopIn
namespace Go.Proofs.Ytmidcnfmphlneaa
open Go.RowKit Go.Shelf
set_option linter.unusedVariables false
theorem run_equalIn_func_nil {P : Program} (w : World) (d : Nat) (t : TypeId) (fn : Fn) (fi ca : Array Value) {ps rs : Array TypeId} {vd : Bool} (h : P.underlying t = some (.func ps rs vd)) :
    (Op.equalIn (d + 1) t (.func fn fi ca) .nilFunc).run P w = .ok false w := by simp [Op.equalIn, run_underlying h]
theorem run_neq_func_nil {P : Program} (w : World) (t : TypeId) (fn : Fn) (fi ca : Array Value) {ps rs : Array TypeId} {vd : Bool} (h : P.underlying t = some (.func ps rs vd)) :
    (binOp .neq t (.func fn fi ca) .nilFunc).run P w = .ok (.bool true) w := by
  simp only [binOp]
  simp [Op.equal, Op.maxDepth, run_equalIn_func_nil w 9999 t fn fi ca h]
theorem grown_below {w w1 : World} (hb : Below w.heap.size w w1) : w.grownBy w1 none := ⟨hb.os, hb.tape, hb.output, hb.size, fun k hk _ => hb.block k hk⟩
/-- What a caller's round keeps for an iterator with boxes of one type of its own: what lay below n₀, and the blocks of that type. -/
def KeepT (T : TypeId) (n₀ : Nat) (W W' : World) : Prop := Below n₀ W W' ∧ ∀ (k : Nat) (c : Array Value) (f : Nat × Nat), W.heap[k]? = some (.cells c T f) → W'.heap[k]? = some (.cells c T f)
/-- .. and for the loop's own book-keeping. -/
def Rnd (T : TypeId) (n₀ B : Nat) (W W' : World) : Prop := KeepT T n₀ W W' ∧ KeepsFrom B W W'
theorem kf_mono {B B' : Nat} {W W' : World} (h : KeepsFrom B W W') (hB : B ≤ B') : KeepsFrom B' W W' := ⟨h.size, fun k o hk => h.same k o (Nat.le_trans hB hk)⟩
theorem KeepT.refl (T : TypeId) (n₀ : Nat) (W : World) : KeepT T n₀ W W := ⟨Below.refl _ _, fun _ _ _ h => h⟩
theorem KeepT.trans {T : TypeId} {n₀ : Nat} {A B C : World} (h : KeepT T n₀ A B) (k : KeepT T n₀ B C) : KeepT T n₀ A C := ⟨h.1.trans k.1, fun i c f hi => k.2 i c f (h.2 i c f hi)⟩
theorem Rnd.refl (T : TypeId) (n₀ B : Nat) (W : World) : Rnd T n₀ B W W := ⟨KeepT.refl _ _ _, KeepsFrom.refl _ _⟩
theorem Rnd.trans {T : TypeId} {n₀ B : Nat} {X Y Z : World} (h : Rnd T n₀ B X Y) (k : Rnd T n₀ B Y Z) : Rnd T n₀ B X Z := ⟨h.1.trans k.1, h.2.trans k.2⟩
theorem Rnd.call {T : TypeId} {n₀ B : Nat} {W W' : World} (hn : n₀ ≤ W.heap.size) (hb : Below W.heap.size W W') : Rnd T n₀ B W W' :=
  ⟨⟨hb.mono hn, fun k c f h => blk_below h hb⟩, ⟨hb.size, fun k o _ h _ => blk_below h hb⟩⟩
theorem Rnd.al {T : TypeId} {n₀ B : Nat} {W : World} (hn : n₀ ≤ W.heap.size) (o : Obj) : Rnd T n₀ B W (W.alloc o) := Rnd.call hn (below_al (Below.refl _ _) o)
theorem Rnd.dr {T : TypeId} {n₀ B : Nat} (W : World) : Rnd T n₀ B W W.drew := ⟨⟨(Below.refl _ _).drew, fun _ _ _ h => h⟩, ⟨Nat.le_refl _, fun _ _ _ h _ => h⟩⟩
theorem Rnd.own {T : TypeId} {n₀ B : Nat} {w w1 : World} {base : Nat} {e : TypeId} {k : Nat} {v : Value} {n : Nat} {cs : List Value} (hown : w.ownsRow base e k v n cs) (he : e ≠ T) (hn : n₀ ≤ base) (hn' : n₀ ≤ w.heap.size)
    (hg : w.grownBy w1 v.ownBlock) : Rnd T n₀ B w w1 := by
  have key : ∀ (j : Nat) (o : Obj), w.heap[j]? = some o → (∀ c f, o ≠ .cells c e f) → w1.heap[j]? = some o := fun j o hj ho => by
    rw [hg.block j (blk_lt hj) fun hv => ?_]
    · exact hj
    · obtain ⟨_, ⟨rfl, _⟩ | ⟨g, cap, cur, rfl, _, hgg, _⟩⟩ := hown
      · simp [Value.ownBlock] at hv
      · simp only [Value.ownBlock, Option.some.injEq] at hv
        subst hv
        rw [hgg] at hj
        exact ho _ _ (Option.some.inj hj).symm
  refine ⟨⟨⟨hg.os, hg.tape, hg.output, hg.size, fun j hj => hg.block j (by omega) fun hv => ?_⟩, fun j c f hj => key j _ hj fun c' f' h' => ?_⟩, ⟨hg.size, fun j o _ hj ho => key j o hj fun c' f' h' => ?_⟩⟩
  · have := (hown.lt j hv.symm).1; omega
  · simp at h'; exact he h'.2.1.symm
  · subst h'; simp [Obj.isCells] at ho
theorem Rnd.set {T : TypeId} {n₀ B : Nat} {w : World} {b : Nat} {c : Array Value} {t : TypeId} {f : Nat × Nat} (hb : w.heap[b]? = some (.cells c t f)) (ht : t ≠ T) (hn : n₀ ≤ b) (o : Nat) (v : Value) : Rnd T n₀ B w (w.setCell ⟨b, o, none⟩ v) := by
  have key : ∀ (j : Nat) (x : Obj), w.heap[j]? = some x → (∀ c f, x ≠ .cells c t f) → (w.setCell ⟨b, o, none⟩ v).heap[j]? = some x := fun j x hj hx => by
    by_cases e : j = b
    · subst e; rw [hb] at hj; exact absurd (Option.some.inj hj).symm (hx _ _)
    · exact blk_set_ne hj (p := ⟨b, o, none⟩) e v
  refine ⟨⟨(Below.refl _ _).setCell (p := ⟨b, o, none⟩) hn v, fun j c' f' hj => key j _ hj fun c2 f2 h2 => ?_⟩, ⟨by simp [World.setCell], fun j x _ hj hx => key j x hj fun c2 f2 h2 => ?_⟩⟩
  · simp at h2; exact ht h2.2.1.symm
  · subst h2; simp [Obj.isCells] at hx
theorem KeepT.put {T : TypeId} {n₀ : Nat} {w : World} (hn : n₀ ≤ w.heap.size) (W : World) (l : Nat) (o o' : Obj) (hl : w.heap.size ≤ l) (h : W.heap[l]? = some o) (hc : o.isCells = false) (hw : o.isWalk = false) : KeepT T n₀ W (W.putObj l o') :=
  ⟨belowK_b hn W l o o' hl h hc hw, fun k c f hk => by
    rw [World.putObj_heap_other (fun e => ?_)]
    · exact hk
    · subst e; rw [h] at hk; cases hk; simp [Obj.isCells] at hc⟩
/-- A loop over an iterator in a plain walk: 'A1' says what the temporaries are behind the assignment to the loop's left sides. -/
theorem wp_range {P : Program} {α : Type} {g : Operand} {ps : Array Tmp} {assign body : Code} {Q : Exit → Act → World → Prop} {a : Act} {w : World} (A1 : Array Value → α → Array Value) {gf : Nat} {lb : Array Value}
    (hg : a.eval g = .func (.func gf) #[] lb) (eg : ∀ args w, (callFunc gf args).run P w = .ok (.enter gf args) w)
    {encs : α → Array Value} {Kp : World → World → Prop} {S Sp : List α → Prop} {N : Nat} (hseq : SeqStopsK Fence.wide 2 P gf lb encs Kp S Sp N w)
    (hKt : ∀ {A B C : World}, Kp A B → Kp B C → Kp A C) (hKb : ∀ (W : World) (l : Nat) (o o' : Obj), w.heap.size ≤ l → W.heap[l]? = some o → o.isCells = false → o.isWalk = false → Kp W (W.putObj l o')) (hps : ∀ x, (encs x).size = ps.size)
    (I : List α → World → Prop) (Ix : Code → List α → World → Prop) (hI : OwnFrom w.heap.size I) (hIx : ∀ c, OwnFrom w.heap.size (Ix c)) (h0 : I [] w)
    (hassign : ∀ (l : Nat) (x : α) (W : World) (K : Act → World → Prop), K { tmps := A1 a.tmps x, defers := [] } W →
      assign.wpIn (Fence.wide.inRound l) 1 P (Exit.then K (fun _ _ _ => False)) { tmps := (ps.zip (encs x)).foldl (fun t (p, v) => t.setIfInBounds p v) a.tmps, defers := [] } W)
    (hbody : ∀ (l : Nat) (pre : List α) (x : α) (W : World), I pre W → pre.length < N → body.wpIn (Fence.wide.inRound l) 1 P (ownPostG w.heap.size Kp I Ix (pre ++ [x]) W) { tmps := A1 a.tmps x, defers := [] } W)
    (hdone : ∀ (D : Nat) (xs : List α) (W : World), w.heap.size ≤ D → S xs → I xs W → W.heap[D]? = some (.deferred (some [])) → Q .normal { a with defers := { target := .collected D, args := #[] } :: a.defers } W)
    (hstop : ∀ (D : Nat) (c : Code) (pre : List α) (W : World), w.heap.size ≤ D → Sp pre → Ix c pre W → W.heap[D]? = some (.deferred (some [])) → c.wp P Q { a with defers := { target := .collected D, args := #[] } :: a.defers } W) :
    (Code.rangeFunc g ps assign body).wp P Q a w :=
  (wpIn_wide (n := 3)).1 (wpIn_rangeFunc_ownG rfl (by omega) hg trivial eg hseq hKt hKb (Below.refl _ _) hps I Ix hI hIx h0 (fun x => { tmps := A1 a.tmps x, defers := [] }) hassign hbody hdone fun D c pre W h1 h2 h3 h4 => wpIn_wide.2 (hstop D c pre W h1 h2 h3 h4))
/-! What a caller says between two rounds: blocks of cells, rows of its own, what lay below: all of it is left alone by the loop's and the iterator's own steps. -/
theorem blk_calm {B b : Nat} {c : Array Value} {t : TypeId} {f : Nat × Nat} {W W' : World} {row : Option Nat} (h : W.heap[b]? = some (.cells c t f)) (hg : W.grownBy W' row) (hr : ∀ r, row = some r → B ≤ r ∧ ∃ o : Obj, W.heap[r]? = some o ∧ o.isCells = false) : W'.heap[b]? = some (.cells c t f) := by
  rw [hg.block b (blk_lt h) fun e => ?_]
  · exact h
  · obtain ⟨_, o, ho, hc⟩ := hr b e.symm
    rw [h] at ho; cases ho; simp [Obj.isCells] at hc
theorem below_own2 {n₀ : Nat} {w wr w1 : World} {base : Nat} {e : TypeId} {k : Nat} {v : Value} {n : Nat} {cs : List Value} (hB : Below n₀ w wr) (hn : n₀ ≤ wr.heap.size) (hbase : n₀ ≤ base) (hown : wr.ownsRow base e k v n cs)
    (hg : wr.grownBy w1 v.ownBlock) : Below n₀ w w1 := hB.grown hg hn fun j hj => Nat.le_trans hbase (hown.lt j hj).1
theorem own_calm {B : Nat} {base : Nat} {e : TypeId} {k : Nat} {v : Value} {n : Nat} {cs : List Value} {W W' : World} {row : Option Nat} (h : W.ownsRow base e k v n cs) (hg : W.grownBy W' row) (hr : ∀ r, row = some r → B ≤ r ∧ ∃ o : Obj, W.heap[r]? = some o ∧ o.isCells = false) : W'.ownsRow base e k v n cs := by
  obtain ⟨h0, h1 | ⟨g, cap, cur, h1, h2, h3, r⟩⟩ := h
  · exact ⟨h0, .inl h1⟩
  · exact ⟨h0, .inr ⟨g, cap, cur, h1, h2, blk_calm h3 hg hr, r⟩⟩
theorem below_calm {B : Nat} {w W W' : World} {row : Option Nat} (h : Below w.heap.size w W) (hB : w.heap.size ≤ B) (hg : W.grownBy W' row) (hr : ∀ r, row = some r → B ≤ r ∧ ∃ o : Obj, W.heap[r]? = some o ∧ o.isCells = false) : Below w.heap.size w W' :=
  h.grown hg h.size fun k e => Nat.le_trans hB (hr k e).1
end Go.Proofs.Ytmidcnfmphlneaa

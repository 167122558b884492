/- What a round keeps for an iterator whose row has elements of the type that the round's own row has: all blocks of that type but the one to which the round's row box points. Nothing of the program. -/
import Derived.Test.YtpeajlponlmceaaIterU
import Derived.Maps.AppendAt
namespace Go.Proofs.Ytpeajlponlmceaa
open Go.RowKit Go.Shelf
set_option linter.unusedVariables false
def ptrB (W : World) (rb : Nat) : Option Nat := match W.heap[rb]? with
  | some (.cells c _ _) => (c[0]?).bind Value.ownBlock
  | _ => none
theorem ptrB_cells {W : World} {rb : Nat} {v : Value} {t : TypeId} {f : Nat × Nat} (h : W.heap[rb]? = some (.cells #[v] t f)) : ptrB W rb = v.ownBlock := by simp [ptrB, h]
theorem ptrB_eq {W W' : World} {rb : Nat} (h : W'.heap[rb]? = W.heap[rb]?) : ptrB W' rb = ptrB W rb := by simp [ptrB, h]
def KeepR (rb : Nat) (T : TypeId) (n₀ : Nat) (W W' : World) : Prop := Below n₀ W W' ∧ (ptrB W' rb = ptrB W rb ∨ ∀ g, ptrB W' rb = some g → W.heap.size ≤ g) ∧
  ∀ (k : Nat) (c : Array Value) (f : Nat × Nat), W.heap[k]? = some (.cells c T f) → ptrB W rb ≠ some k → W'.heap[k]? = some (.cells c T f)
theorem KeepR.refl (rb : Nat) (T : TypeId) (n₀ : Nat) (W : World) : KeepR rb T n₀ W W := ⟨Below.refl _ _, .inl rfl, fun _ _ _ h _ => h⟩
theorem KeepR.trans {rb : Nat} {T : TypeId} {n₀ : Nat} {A B C : World} (h : KeepR rb T n₀ A B) (k : KeepR rb T n₀ B C) : KeepR rb T n₀ A C := by
  refine ⟨h.1.trans k.1, ?_, fun i c f hi hp => ?_⟩
  · rcases k.2.1 with hk | hk
    · rcases h.2.1 with hh | hh
      · exact .inl (hk.trans hh)
      · exact .inr fun g hg => hh g (hk ▸ hg)
    · exact .inr fun g hg => Nat.le_trans h.1.size (hk g hg)
  · refine k.2.2 i c f (h.2.2 i c f hi hp) fun he => ?_
    rcases h.2.1 with hh | hh
    · exact hp (hh ▸ he)
    · have := hh i he; have := blk_lt hi; omega
theorem KeepR.of_below {rb : Nat} {T : TypeId} {n₀ : Nat} {W W' : World} (hn : n₀ ≤ W.heap.size) (hr : rb < W.heap.size) (hb : Below W.heap.size W W') : KeepR rb T n₀ W W' :=
  ⟨hb.mono hn, .inl (ptrB_eq (hb.block rb hr)), fun _ _ _ h _ => blk_below h hb⟩
theorem KeepR.put {rb : Nat} {T : TypeId} {n₀ : Nat} {w : World} (hn : n₀ ≤ w.heap.size) (hr : rb < w.heap.size) (W : World) (l : Nat) (o o' : Obj) (hl : w.heap.size ≤ l) (h : W.heap[l]? = some o) (hc : o.isCells = false) (hw : o.isWalk = false) : KeepR rb T n₀ W (W.putObj l o') :=
  ⟨belowK_b hn W l o o' hl h hc hw, .inl (ptrB_eq (World.putObj_heap_other (by omega))), fun k c f hk _ => (KeepT.put (T := T) hn W l o o' hl h hc hw).2 k c f hk⟩
theorem KeepR.app {rb : Nat} {T rowT : TypeId} {n₀ : Nat} {W w1 : World} {base k m : Nat} {v v' : Value} {cs : List Value} {o : Obj} {f : Nat × Nat} (hrow : W.heap[rb]? = some (.cells #[v] rowT f)) (he1 : w1.heap[rb]? = some (.cells #[v] rowT f)) (hown : W.ownsRow base T k v m cs) (hbase : n₀ ≤ base) (hn : n₀ ≤ W.heap.size) (hr : n₀ ≤ rb)
    (hg : (W.alloc o).grownBy w1 v.ownBlock) (hv : v'.ownBlock = v.ownBlock ∨ v'.ownBlock = some (W.alloc o).heap.size) (hT : rowT ≠ T) : KeepR rb T n₀ W (w1.setCell ⟨rb, 0, none⟩ v') := by
  have hp : ptrB W rb = v.ownBlock := ptrB_cells hrow
  refine ⟨(below_own2 (below_al (Below.refl _ _) o |>.mono hn) (by simp; omega) hbase (hown.alloc o) hg).setCell (p := ⟨rb, 0, none⟩) hr v', ?_, fun j c f' hj hne => ?_⟩
  · have h2 : ptrB (w1.setCell ⟨rb, 0, none⟩ v') rb = v'.ownBlock := ptrB_cells (v := v') (blk_set he1 0 v')
    rcases hv with hv | hv
    · exact .inl (by rw [h2, hp, hv])
    · exact .inr fun g hg => by rw [h2, hv] at hg; cases hg; simp
  · have hjr : j ≠ rb := fun e => by subst e; rw [hrow] at hj; simp at hj; exact hT hj.2.1
    refine blk_set_ne (p := ⟨rb, 0, none⟩) ?_ hjr v'
    rw [hg.block j (Nat.lt_succ_of_lt (blk_lt hj) |> fun h => by simpa using h) fun e => hne (by rw [hp, ← e])]
    exact blk_al hj o
theorem wpListIn_append_own_at {F : Fence} {n : Nat} {P : Program} (w : World) {ops : Array Oper} {rest : List Oper} {o : Oper} {a : Act} {Q : Exit → Act → World → Prop}
    (hg : o.guard = none) (s x : Operand) (t : TypeId) (hop : o.op = Op.call { callee := Callee.builtin Builtin.append, args := #[s, x], argTypes := #[t, t] })
    (base : Nat) (e : TypeId) (i : TypeInfo) (z : Value) (size bytes : Nat) (h1 : P.underlying t = some (.slice e)) (h2 : P.info? e = some i) (h3 : i.zero = some z) (h4 : i.size = size) (h5 : i.bytes = bytes) (h6 : z.cells.size = size) (h7 : 0 < size)
    (v : Value) (k : Nat) (xs : List Value) (hs : a.eval s = v) (hown : w.ownsRow base e size v k xs) (ad : Addr) (m c : Nat) (news : List Value) (hx : a.eval x = .slice (some ad) m c) (hn : news.length = m * size)
    (hc : ∀ j u, news[j]? = some u → w.cell? (ad.add j) = some u) (h1c : ∀ u ∈ news, u.oneCell' = true) (b1 : k + m ≤ maxLen) (b2 : (k + m) * bytes ≤ 140737488355328) (b3 : base ≤ w.heap.size)
    (hK : ∀ v' w', w'.ownsRow base e size v' (k + m) (xs ++ news) → w.grownBy w' v.ownBlock → (v'.ownBlock = v.ownBlock ∨ v'.ownBlock = some w.heap.size) → wpListIn F n P ops Q rest (a.put o.dst v') w') :
    wpListIn F n P ops Q (o :: rest) a w := by
  refine wpListIn_plain hg fun K hK' => ?_
  obtain ⟨v', w', hrun, r1, r2, _, r3⟩ := run_append_own_at (P := P) w base t o.type e i z size bytes h1 h2 h3 h4 h5 h6 h7 v k xs hown ad m c news hn hc h1c b1 b2 b3
  unfold Oper.wpIn
  refine ⟨?_, ?_⟩
  · simp [Oper.about, hop, resolve, Target.leads, Sem.run_pure]
  · rw [Oper.semAt_plain F _ _ (by rw [hop]; intro c hc'; cases hc')]
    simp [execOp, hop, resolve, invoke, builtin, hs, hx, hrun, Result.andThen]
    exact hK' _ _ (hK v' w' r1 r2 r3)
end Go.Proofs.Ytpeajlponlmceaa

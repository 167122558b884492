/- A slice in a block of its own, at any offset; append to it, and its tail: nothing of the program. -/
import Derived.Test.YtmidcnfmphlneaaLists
import Derived.ArgAppend
import Derived.OwnWalkIn
namespace Go.Proofs.Ytmidcnfmphlneaa
open Go.RowKit
set_option linter.unusedSimpArgs false
set_option linter.unusedVariables false
theorem setCells_far (g : Nat) : ∀ (vs : List Value) (o : Nat) (w : World) (k : Nat), k ≠ g → (w.setCells g o vs).heap[k]? = w.heap[k]?
  | [], _, _, _, _ => rfl
  | v :: r, o, w, k, hk => by
    rw [World.setCells, setCells_far g r (o + 1) _ k hk]
    exact Below.heap_setCell w ⟨g, o, none⟩ v k hk
theorem setCells_same (g : Nat) : ∀ (vs : List Value) (o : Nat) (w : World), (w.setCells g o vs).os = w.os ∧ (w.setCells g o vs).tape = w.tape ∧ (w.setCells g o vs).output = w.output ∧ (w.setCells g o vs).heap.size = w.heap.size
  | [], _, _ => ⟨rfl, rfl, rfl, rfl⟩
  | v :: r, o, w => by
    obtain ⟨h1, h2, h3, h4⟩ := setCells_same g r (o + 1) (w.setCell ⟨g, o, none⟩ v)
    rw [World.setCells]
    exact ⟨h1, h2, h3, by rw [h4]; simp [World.setCell]⟩
theorem setCells_row (g : Nat) (e : TypeId) : ∀ (vs : List Value) (o : Nat) (w : World) (cur : Array Value), w.heap[g]? = some (.cells cur e (0, 0)) → o + vs.length ≤ cur.size →
    ∃ cur', (w.setCells g o vs).heap[g]? = some (.cells cur' e (0, 0)) ∧ cur'.size = cur.size ∧ ∀ i, cur'[i]? = if o ≤ i ∧ i < o + vs.length then vs[i - o]? else cur[i]?
  | [], o, w, cur, h, _ => ⟨cur, h, rfl, fun i => by rw [if_neg (by simp)]⟩
  | v :: r, o, w, cur, h, hl => by
    simp only [List.length_cons] at hl
    obtain ⟨cur', h3, h4, h5⟩ := setCells_row g e r (o + 1) (w.setCell ⟨g, o, none⟩ v) _ (blk_set h o v) (by simp; omega)
    refine ⟨cur', h3, by rw [h4]; simp, fun i => ?_⟩
    rw [h5 i]
    by_cases h1 : i = o
    · subst h1
      rw [if_neg (by omega), if_pos (by simp), Nat.sub_self]
      simp [Array.getElem?_setIfInBounds, show i < cur.size by omega]
    · by_cases h2 : o ≤ i ∧ i < o + (r.length + 1)
      · rw [if_pos (by omega), if_pos (by simpa using h2)]
        obtain ⟨j, hj⟩ : ∃ j, i - o = j + 1 := ⟨i - o - 1, by omega⟩
        rw [hj, show i - (o + 1) = j by omega]
        simp
      · rw [if_neg (by omega), if_neg (by simpa using h2), Array.getElem?_setIfInBounds_ne (by omega)]
/-- The slice v, in a block from n₀ on, has n elements of k cells each; these are xs. -/
def SlAt (w : World) (n₀ : Nat) (e : TypeId) (k : Nat) (v : Value) (n : Nat) (xs : List Value) : Prop :=
  xs.length = n * k ∧ ((v = .slice none 0 0 ∧ n = 0) ∨ ∃ g o cap cur, v = .slice (some ⟨g, o, none⟩) n cap ∧ n ≤ cap ∧ cap ≤ maxLen ∧ n₀ ≤ g ∧ w.heap[g]? = some (.cells cur e (0, 0)) ∧ o + cap * k ≤ cur.size ∧ ∀ i, i < n * k → cur[o + i]? = xs[i]?)
theorem SlAt.nil (w : World) (n₀ : Nat) (e : TypeId) (k : Nat) : SlAt w n₀ e k (.slice none 0 0) 0 [] := ⟨by simp, .inl ⟨rfl, rfl⟩⟩
theorem SlAt.row {w : World} {n₀ : Nat} {e : TypeId} {k : Nat} {v : Value} {n : Nat} {xs : List Value} (h : SlAt w n₀ e k v n xs) : RowAt w k v n xs := by
  obtain ⟨h0, h | ⟨g, o, cap, cur, h1, h2, h3, h4, h5, h6, h7⟩⟩ := h
  · exact ⟨h0, .inl ⟨⟨none, 0, h.1, Nat.zero_le _⟩, h.2⟩⟩
  · exact ⟨h0, .inr ⟨g, o, cap, h1, h2, h3, blk_lt h5, fun i hi => (cell_blk h5 _).trans (h7 i hi)⟩⟩
theorem SlAt.keep {w w1 : World} {n₀ : Nat} {e : TypeId} {k : Nat} {v : Value} {n : Nat} {xs : List Value} (h : SlAt w n₀ e k v n xs) (hk : ∀ g, n₀ ≤ g → g < w.heap.size → w1.heap[g]? = w.heap[g]?) : SlAt w1 n₀ e k v n xs := by
  obtain ⟨h0, h | ⟨g, o, cap, cur, h1, h2, h3, h4, h5, h6, h7⟩⟩ := h
  · exact ⟨h0, .inl h⟩
  · exact ⟨h0, .inr ⟨g, o, cap, cur, h1, h2, h3, h4, (hk g h4 (blk_lt h5)).trans h5, h6, h7⟩⟩
theorem SlAt.below {w w1 : World} {n₀ : Nat} {e : TypeId} {k : Nat} {v : Value} {n : Nat} {xs : List Value} (h : SlAt w n₀ e k v n xs) (hb : Below w.heap.size w w1) : SlAt w1 n₀ e k v n xs := h.keep fun g _ hg => hb.block g hg
theorem SlAt.but {S : List Nat} {w w1 : World} {n₀ : Nat} {e : TypeId} {k : Nat} {v : Value} {n : Nat} {xs : List Value} (h : SlAt w n₀ e k v n xs) (hb : ButS S w w1) (hS : ∀ b, b ∈ S → b < n₀) : SlAt w1 n₀ e k v n xs :=
  h.keep fun g h1 hg => hb.block g hg fun hm => by have := hS g hm; omega
theorem SlAt.set {w : World} {n₀ : Nat} {e : TypeId} {k : Nat} {v : Value} {n : Nat} {xs : List Value} (h : SlAt w n₀ e k v n xs) {p : Addr} (hp : p.block < n₀) (u : Value) : SlAt (w.setCell p u) n₀ e k v n xs :=
  h.keep fun g h1 _ => Below.heap_setCell w p u g (by omega)
theorem SlAt.al {w : World} {n₀ : Nat} {e : TypeId} {k : Nat} {v : Value} {n : Nat} {xs : List Value} (h : SlAt w n₀ e k v n xs) (o : Obj) : SlAt (w.alloc o) n₀ e k v n xs := h.keep fun g _ hg => Below.heap_alloc w o g hg
theorem SlAt.base {w : World} {n₀ m : Nat} {e : TypeId} {k : Nat} {v : Value} {n : Nat} {xs : List Value} (h : SlAt w n₀ e k v n xs) (hm : m ≤ n₀) : SlAt w m e k v n xs := by
  obtain ⟨h0, h | ⟨g, o, cap, cur, h1, h2, h3, h4, r⟩⟩ := h
  · exact ⟨h0, .inl h⟩
  · exact ⟨h0, .inr ⟨g, o, cap, cur, h1, h2, h3, by omega, r⟩⟩
theorem SlAt.of_own {w : World} {base : Nat} {e : TypeId} {k : Nat} {v : Value} {n : Nat} {cs : List Value} (h : w.ownsRow base e k v n cs) : SlAt w base e k v n cs := by
  obtain ⟨h0, h | ⟨g, cap, cur, h1, h2, h3, h4, h5, h6, h7⟩⟩ := h
  · exact ⟨h0, .inl h⟩
  · refine ⟨h0, .inr ⟨g, 0, cap, cur, h1, h4, h5, h2, h3, by omega, fun i hi => ?_⟩⟩
    rw [Nat.zero_add, ← h7, List.getElem?_take_of_lt hi, Array.getElem?_toList]
theorem SlAt.tail {w : World} {n₀ : Nat} {e : TypeId} {k : Nat} {a : Option Addr} {n cap : Nat} {xs : List Value} (h : SlAt w n₀ e k (.slice a (n + 1) cap) (n + 1) xs) : SlAt w n₀ e k (.slice (if cap = 1 then a else a.map (·.add k)) n (cap - 1)) n (xs.drop k) := by
  obtain ⟨h0, h | ⟨g, o, cap', cur, h1, h2, h3, h4, h5, h6, h7⟩⟩ := h
  · omega
  · simp only [Value.slice.injEq] at h1
    obtain ⟨rfl, _, rfl⟩ := h1
    have e1 : (n + 1) * k = n * k + k := by rw [Nat.add_mul, Nat.one_mul]
    refine ⟨by rw [List.length_drop, h0, e1]; omega, .inr ?_⟩
    by_cases hc : cap = 1
    · obtain rfl : n = 0 := by omega
      rw [if_pos hc]
      exact ⟨g, o, _, cur, rfl, by omega, by omega, h4, h5, by rw [hc]; simp; have := blk_lt h5; omega, fun i hi => by omega⟩
    · rw [if_neg hc]
      have e2 : (cap - 1) * k + k = cap * k := by
        obtain ⟨c, rfl⟩ : ∃ c, cap = c + 1 := ⟨cap - 1, by omega⟩
        rw [Nat.add_sub_cancel, Nat.add_mul, Nat.one_mul]
      refine ⟨g, o + k, cap - 1, cur, by rw [Option.map_some, add_at], by omega, by omega, h4, h5, by omega, fun i hi => ?_⟩
      rw [Nat.add_assoc, h7 (k + i) (by omega), List.getElem?_drop]
theorem run_slice_from {P : Program} (t e : TypeId) (h : P.underlying t = some (.slice e)) {i : TypeInfo} (hi : P.info? e = some i) (a : Option Addr) (n c : Nat) (hc : 1 ≤ c) (w : World) :
    (Instr.slice t (.slice a (n + 1) c) (some (.int .i64 1)) none none).run P w = .ok (.slice (if c = 1 then a else a.map (·.add i.size)) n (c - 1)) w := by
  have he : P.underlying t = some (.slice (P.elem t)) := by simp [Program.elem, h]
  have h1 := run_slice_l (P := P) (w := w) (t := t) (a := a) (len := n + 1) (cap := c) (ht := he) (kl := .i64) (l := 1) (by omega) (by omega)
  rw [h1]
  have e1 : P.elem t = e := by simp [Program.elem, h]
  rw [e1]
  simp [run_sizeOf w hi, Go.sliced, Result.andThen, Program.cellsOf, hi]

theorem run_slice_low {P : Program} (t e : TypeId) (h : P.underlying t = some (.slice e)) {i : TypeInfo} (hi : P.info? e = some i) (a : Option Addr) (n c m : Nat) (hm : m ≤ n) (w : World) :
    (Instr.slice t (.slice a n c) (some (.int .i64 (m : Int))) none none).run P w = .ok (.slice (if c = m then a else a.map (·.add (m * i.size))) (n - m) (c - m)) w := by
  have he : P.underlying t = some (.slice (P.elem t)) := by simp [Program.elem, h]
  have h1 := run_slice_l (P := P) (w := w) (t := t) (a := a) (len := n) (cap := c) (ht := he) (kl := .i64) (l := (m : Int)) (by omega) (by omega)
  rw [h1]
  have e1 : P.elem t = e := by simp [Program.elem, h]
  rw [e1]
  simp [run_sizeOf w hi, Go.sliced, Result.andThen, Program.cellsOf, hi]
theorem RowAt.drop {w : World} {k : Nat} {a : Option Addr} {n cap : Nat} {cs : List Value} (h : RowAt w k (.slice a n cap) n cs) (hk : 0 < k) {m : Nat} (hm : m ≤ n) :
    RowAt w k (.slice (if cap = m then a else a.map (·.add (m * k))) (n - m) (cap - m)) (n - m) (cs.drop (m * k)) := by
  have hlen : (cs.drop (m * k)).length = (n - m) * k := by rw [List.length_drop, h.1, Nat.sub_mul]
  obtain ⟨h0, ⟨⟨a', cap', h1, hc⟩, rfl⟩ | ⟨g, o, cap', h1, h2, h3, h4, h5⟩⟩ := h
  · simp only [Value.slice.injEq] at h1
    obtain ⟨rfl, _, rfl⟩ := h1
    obtain rfl : m = 0 := by omega
    exact ⟨hlen, .inl ⟨⟨_, _, rfl, by omega⟩, rfl⟩⟩
  · simp only [Value.slice.injEq] at h1
    obtain ⟨rfl, _, rfl⟩ := h1
    by_cases hc : cap = m
    · obtain rfl : m = n := by omega
      rw [if_pos hc]
      exact ⟨hlen, .inl ⟨⟨_, _, by rw [Nat.sub_self], by omega⟩, by omega⟩⟩
    · rw [if_neg hc]
      refine ⟨hlen, .inr ⟨g, o + m * k, cap - m, by rw [Option.map_some, add_at], by omega, by omega, h4, fun i hi => ?_⟩⟩
      rw [Nat.sub_mul] at hi
      rw [Nat.add_assoc, h5 (m * k + i) (by omega), List.getElem?_drop]

theorem run_append_sl {P : Program} (w : World) (n₀ : Nat) (t ty e : TypeId) (i : TypeInfo) (z : Value) (k bytes : Nat) (ht : P.underlying t = some (.slice e)) (hi : P.info? e = some i) (hz : i.zero = some z)
    (hsize : i.size = k) (hby : i.bytes = bytes) (hzs : z.cells.size = k) (hsz : 0 < k) (v : Value) (n : Nat) (xs : List Value) (hv : SlAt w n₀ e k v n xs)
    (a : Addr) (m c : Nat) (news : List Value) (hl : news.length = m * k) (hnews : ∀ j u, news[j]? = some u → w.cell? (a.add j) = some u) (h1 : ∀ u ∈ news, u.oneCell' = true)
    (h63 : n + m ≤ maxLen) (hbytes : (n + m) * bytes ≤ 140737488355328) (hb : n₀ ≤ w.heap.size) :
    ∃ v' w', (Builtin.append_ #[t, t] ty #[v, .slice (some a) m c]).run P w = .ok v' w' ∧ SlAt w' n₀ e k v' (n + m) (xs ++ news) ∧ Below n₀ w w' := by
  have hlen : (xs ++ news).length = (n + m) * k := by rw [List.length_append, hv.1, hl, Nat.add_mul]
  obtain ⟨h0, ⟨rfl, rfl⟩ | ⟨g, o, cap, cur, rfl, h2, h3, h4, h5, h6, h7⟩⟩ := hv
  · obtain rfl : xs = [] := List.eq_nil_of_length_eq_zero (by simpa using h0)
    obtain ⟨v', w', hr, r1, r2, _⟩ := run_append_own (P := P) w w.heap.size t ty e i z k bytes ht hi hz hsize hby hzs hsz (.slice none 0 0) 0 [] (World.ownsRow_nil w _ e k) a m c news hl hnews h1 h63 hbytes (Nat.le_refl _)
    exact ⟨v', w', hr, (SlAt.of_own r1).base hb, (Below.refl _ _).grown r2 hb (by intro j hj; simp [Value.ownBlock] at hj)⟩
  · by_cases hr : n + m ≤ cap
    · have hk : (n + m) * k ≤ cap * k := Nat.mul_le_mul_right _ hr
      rw [Nat.add_mul] at hk
      have hin : ∀ j, j < news.length → o + n * k + j < cur.size := fun j hj => by omega
      have hrun := run_append_room_cells (P := P) w t ty e i ht hi g o n cap a m c news (by rw [hsize]; exact hl) hnews h1 hr
        (fun j hj => by rw [hsize, cell_blk h5]; simp [hin j hj]) (fun j hj => frozen_blk h5 _)
      rw [hsize] at hrun
      obtain ⟨cur', q1, q2, q3⟩ := setCells_row g e news (o + n * k) w cur h5 (by omega)
      obtain ⟨s1, s2, s3, s4⟩ := setCells_same g news (o + n * k) w
      refine ⟨_, _, hrun, ⟨hlen, .inr ⟨g, o, cap, cur', rfl, hr, h3, h4, q1, by omega, fun i hi => ?_⟩⟩, ⟨s1, s2, s3, by omega, fun j hj => setCells_far g news _ w j (by omega)⟩⟩
      rw [Nat.add_mul] at hi
      rw [q3]
      by_cases hlt : i < n * k
      · rw [if_neg (by omega), h7 i hlt, List.getElem?_append_left (by omega)]
      · rw [if_pos (by omega), List.getElem?_append_right (by omega)]
        congr 1
        omega
    · have hcn : n * k ≤ cap * k := Nat.mul_le_mul_right _ h2
      have holds : ∀ j u, xs[j]? = some u → w.cell? ((⟨g, o, none⟩ : Addr).add j) = some u := fun j u hj => by
        have hjl : j < n * k := by have := (List.getElem?_eq_some_iff.1 hj).1; omega
        rw [add_at, cell_blk h5, h7 j hjl]; exact hj
      obtain ⟨v', w', hr, r1, r2⟩ := run_append_arg_grows (P := P) w t ty e i z k bytes ht hi hz hsize hby hzs hsz ⟨g, o, none⟩ n cap xs h0 holds a m c news hl hnews (by omega) h63 hbytes
      exact ⟨v', w', hr, (SlAt.of_own r1).base hb, (Below.refl _ _).grown r2 hb (by simp)⟩

theorem wpList_append_sl {P : Program} (w : World) {ops : Array Oper} {rest : List Oper} {o : Oper} {a : Act} {Q : Exit → Act → World → Prop}
    (hg : o.guard = none) (s x : Operand) (t : TypeId) (hop : o.op = Op.call { callee := Callee.builtin Builtin.append, args := #[s, x], argTypes := #[t, t] })
    (n₀ : Nat) (e : TypeId) (i : TypeInfo) (z : Value) (k bytes : Nat) (h1 : P.underlying t = some (.slice e)) (h2 : P.info? e = some i) (h3 : i.zero = some z) (h4 : i.size = k) (h5 : i.bytes = bytes) (h6 : z.cells.size = k) (h7 : 0 < k)
    (v : Value) (n : Nat) (xs : List Value) (hs : a.eval s = v) (hv : SlAt w n₀ e k v n xs) (ad : Addr) (m c : Nat) (news : List Value) (hx : a.eval x = .slice (some ad) m c) (hn : news.length = m * k)
    (hc : ∀ j u, news[j]? = some u → w.cell? (ad.add j) = some u) (h1c : ∀ u ∈ news, u.oneCell' = true) (b1 : n + m ≤ maxLen) (b2 : (n + m) * bytes ≤ 140737488355328) (b3 : n₀ ≤ w.heap.size)
    (hK : ∀ v' w', SlAt w' n₀ e k v' (n + m) (xs ++ news) → Below n₀ w w' → wpList P ops Q rest (a.put o.dst v') w') :
    wpList P ops Q (o :: rest) a w := by
  refine wpList_plain hg fun K hK' => ?_
  obtain ⟨v', w', hrun, r1, r2⟩ := run_append_sl (P := P) w n₀ t o.type e i z k bytes h1 h2 h3 h4 h5 h6 h7 v n xs hv ad m c news hn hc h1c b1 b2 b3
  unfold Oper.wp
  simp [execOp, hop, resolve, invoke, builtin, hs, hx, hrun, Result.andThen]
  exact hK' _ _ (hK v' w' r1 r2)

theorem wpListIn_append_sl {F : Fence} {nF : Nat} {P : Program} (w : World) {ops : Array Oper} {rest : List Oper} {o : Oper} {a : Act} {Q : Exit → Act → World → Prop}
    (hg : o.guard = none) (s x : Operand) (t : TypeId) (hop : o.op = Op.call { callee := Callee.builtin Builtin.append, args := #[s, x], argTypes := #[t, t] })
    (n₀ : Nat) (e : TypeId) (i : TypeInfo) (z : Value) (k bytes : Nat) (h1 : P.underlying t = some (.slice e)) (h2 : P.info? e = some i) (h3 : i.zero = some z) (h4 : i.size = k) (h5 : i.bytes = bytes) (h6 : z.cells.size = k) (h7 : 0 < k)
    (v : Value) (n : Nat) (xs : List Value) (hs : a.eval s = v) (hv : SlAt w n₀ e k v n xs) (ad : Addr) (m c : Nat) (news : List Value) (hx : a.eval x = .slice (some ad) m c) (hn : news.length = m * k)
    (hc : ∀ j u, news[j]? = some u → w.cell? (ad.add j) = some u) (h1c : ∀ u ∈ news, u.oneCell' = true) (b1 : n + m ≤ maxLen) (b2 : (n + m) * bytes ≤ 140737488355328) (b3 : n₀ ≤ w.heap.size)
    (hK : ∀ v' w', SlAt w' n₀ e k v' (n + m) (xs ++ news) → Below n₀ w w' → wpListIn F nF P ops Q rest (a.put o.dst v') w') :
    wpListIn F nF P ops Q (o :: rest) a w := by
  refine wpListIn_plain hg fun K hK' => ?_
  obtain ⟨v', w', hrun, r1, r2⟩ := run_append_sl (P := P) w n₀ t o.type e i z k bytes h1 h2 h3 h4 h5 h6 h7 v n xs hv ad m c news hn hc h1c b1 b2 b3
  unfold Oper.wpIn
  refine ⟨by simp [Oper.about, hop, resolve, Target.leads, Sem.run_pure], ?_⟩
  rw [Oper.semAt_plain F _ _ (by rw [hop]; intro c hc'; cases hc')]
  simp [execOp, hop, resolve, invoke, builtin, hs, hx, hrun, Result.andThen]
  exact hK' _ _ (hK v' w' r1 r2)
end Go.Proofs.Ytmidcnfmphlneaa

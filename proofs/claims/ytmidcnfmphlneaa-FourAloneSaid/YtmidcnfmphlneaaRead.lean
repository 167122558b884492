/- How an argument that reads as data lies in memory, said by its shape; and the law's row out of its walk. Nothing of the program but the numbers of its types comes in. -/
import Derived.Test.YtmidcnfmphlneaaRows
import Derived.WalkKit
import Derived.ProofKit
import Derived.OpenShut
import Derived.Deep.Slices
namespace Go.Proofs.Ytmidcnfmphlneaa
open Go.ChangeShapes Go.WideShapes Go.ChangeAt Go.RowKit Go.Deep
open Go.ChangeMaps (open_string shut_string)

/-- The shape of a type of plain data: whole numbers, bools, strings, slices (of elements of n cells); structs and arrays: a chain of parts, each with its number of cells. -/
inductive Sh where
  | int (k : IntKind) | bool | str
  | slice (n : Nat) (s : Sh)
  | nil | pair (n : Nat) (a r : Sh)

/-- Some cells read as data of a shape. -/
def Rd (w : World) : Sh → List Value → Prop
  | .int k, cs => ∃ n, cs = [.int k n] ∧ (Lit.int k n).wf = true
  | .bool, cs => ∃ b, cs = [.bool b]
  | .str, cs => ∃ s, cs = [.string s] ∧ s.size ≤ maxLen
  | .slice n s, cs => cs = [.slice none 0 0] ∨ ∃ (a : Addr) (len cap : Nat) (xs : Nat → List Value), cs = [.slice (some a) len cap] ∧ len ≤ cap ∧ cap ≤ maxLen ∧
      ∀ i, i < len → (xs i).length = n ∧ (∀ j, j < n → w.cell? (a.add (i * n + j)) = (xs i)[j]?) ∧ Rd w s (xs i)
  | .nil, cs => cs = []
  | .pair n a r, cs => n ≤ cs.length ∧ Rd w a (cs.take n) ∧ Rd w r (cs.drop n)

/-- What a chain of parts is held against: the fields of a struct from an offset on, or so many elements of an array. -/
inductive Tg where
  | ty (t : TypeId) | fs (l : List Field) (off tot : Nat) | arr (m : Nat) (e : TypeId)

def Sh.ok (P : Program) : Sh → Tg → Bool
  | .int k, .ty t => match P.underlying t with | some (.int k') => k' == k | _ => false
  | .bool, .ty t => match P.underlying t with | some .bool => true | _ => false
  | .str, .ty t => match P.underlying t with | some .string => true | _ => false
  | .slice n s, .ty t => match P.underlying t with | some (.slice e) => (P.cellsOf e == n) && s.ok P (.ty e) | _ => false
  | .pair n a r, .ty t => match P.underlying t with
    | some (.struct fs) => match fs.toList with
      | f :: l => f.offset == 0 && (P.cellsOf f.type == n) && decide (n ≤ P.cellsOf t) && a.ok P (.ty f.type) && r.ok P (.fs l n (P.cellsOf t))
      | [] => false
    | some (.array m e) => m != 0 && (P.cellsOf t == m * n) && (P.cellsOf e == n) && a.ok P (.ty e) && r.ok P (.arr (m - 1) e)
    | _ => false
  | .nil, .fs l off tot => l.isEmpty && off == tot
  | .pair n a r, .fs l off tot => match l with
      | f :: l => f.offset == off && (P.cellsOf f.type == n) && decide (off + n ≤ tot) && a.ok P (.ty f.type) && r.ok P (.fs l (off + n) tot)
      | [] => false
  | .nil, .arr m _ => m == 0
  | .pair n a r, .arr m e => m != 0 && (P.cellsOf e == n) && a.ok P (.ty e) && r.ok P (.arr (m - 1) e)
  | _, _ => false

section
variable {H : Type} {enc : TypeId × Value → H} {P : Program} {w : World} {base : Nat} {held : Bool}

/-- What is known of the cells at a target. -/
def AtTg (enc : TypeId × Value → H) (P : Program) (w : World) (base : Nat) (held : Bool) (fuel : Nat) (cs : List Value) : Tg → Prop
  | .ty t => ∃ x, DataW.trod enc P w base (fun _ => true) held fuel t cs = some x
  | .fs l off tot => off + cs.length = tot ∧ ∀ f ∈ l, off ≤ f.offset → ∃ x, DataW.trod enc P w base (fun _ => true) held fuel f.type ((cs.drop (f.offset - off)).take (P.cellsOf f.type)) = some x
  | .arr m e => cs.length = m * P.cellsOf e ∧ ∀ i, i < m → ∃ x, DataW.trod enc P w base (fun _ => true) held fuel e ((cs.drop (i * P.cellsOf e)).take (P.cellsOf e)) = some x

theorem rd_of_trod (sh : Sh) : ∀ (tg : Tg) (fuel : Nat) (cs : List Value), sh.ok P tg = true → AtTg enc P w base held fuel cs tg → Rd w sh cs := by
  induction sh with
  | int k =>
    intro tg fuel cs hok h
    obtain ⟨t, rfl⟩ : ∃ t, tg = .ty t := by
      cases tg with
      | ty t => exact ⟨t, rfl⟩
      | fs l off tot => exact Bool.noConfusion (show false = true from hok)
      | arr m e => exact Bool.noConfusion (show false = true from hok)
    simp only [Sh.ok] at hok
    split at hok <;> simp at hok
    subst hok
    obtain ⟨x, hx⟩ := h
    obtain ⟨n, h1, _, h3⟩ := DataW.trod_int (by assumption) hx
    exact ⟨n, h1, h3⟩
  | bool =>
    intro tg fuel cs hok h
    obtain ⟨t, rfl⟩ : ∃ t, tg = .ty t := by
      cases tg with
      | ty t => exact ⟨t, rfl⟩
      | fs l off tot => exact Bool.noConfusion (show false = true from hok)
      | arr m e => exact Bool.noConfusion (show false = true from hok)
    simp only [Sh.ok] at hok
    split at hok <;> simp at hok
    obtain ⟨x, hx⟩ := h
    obtain ⟨b, h1, _⟩ := DataW.trod_bool (by assumption) hx
    exact ⟨b, h1⟩
  | str =>
    intro tg fuel cs hok h
    obtain ⟨t, rfl⟩ : ∃ t, tg = .ty t := by
      cases tg with
      | ty t => exact ⟨t, rfl⟩
      | fs l off tot => exact Bool.noConfusion (show false = true from hok)
      | arr m e => exact Bool.noConfusion (show false = true from hok)
    simp only [Sh.ok] at hok
    split at hok <;> simp at hok
    obtain ⟨x, hx⟩ := h
    obtain ⟨s, h1, _, h3⟩ := DataW.trod_string (by assumption) hx
    exact ⟨s, h1, h3⟩
  | slice n s ih =>
    intro tg fuel cs hok h
    obtain ⟨t, rfl⟩ : ∃ t, tg = .ty t := by
      cases tg with
      | ty t => exact ⟨t, rfl⟩
      | fs l off tot => exact Bool.noConfusion (show false = true from hok)
      | arr m e => exact Bool.noConfusion (show false = true from hok)
    simp only [Sh.ok] at hok
    split at hok <;> simp at hok
    rename_i e ht
    obtain ⟨hn, hs⟩ := hok
    obtain ⟨x, hx⟩ := h
    rcases open_slice ht hx with ⟨h0, _⟩ | ⟨a, len, cap, m, n', D, Pl, rfl, _, hl, hm, hmm, _, hall⟩
    · exact .inl h0
    · right
      obtain rfl : m = cap := by simpa using hmm
      have hch : ∀ i, ∃ ys : List Value, i < len → (ys.length = n ∧ (∀ j, j < n → w.cell? (a.add (i * n + j)) = ys[j]?) ∧ Rd w s ys) := by
        intro i
        by_cases hi : i < len
        · obtain ⟨ys, h1, h2⟩ := hall i (by omega)
          obtain ⟨_, g1, g2⟩ := World.cells?_some h1
          refine ⟨ys, fun _ => ⟨g1.trans hn, fun j hj => ?_, ih (.ty e) n' ys hs ⟨_, h2⟩⟩⟩
          rw [← g2 j (by omega), add_add, hn]
        · exact ⟨[], fun h => absurd h hi⟩
      exact ⟨a, len, _, fun i => Classical.choose (hch i), rfl, hl, hm, fun i hi => Classical.choose_spec (hch i) hi⟩
  | nil =>
    intro tg fuel cs hok h
    cases tg with
    | ty t => exact Bool.noConfusion (show false = true from hok)
    | fs l off tot =>
      simp [Sh.ok] at hok
      have := h.1
      exact List.length_eq_zero_iff.1 (by omega)
    | arr m e =>
      simp [Sh.ok] at hok
      have := h.1
      subst hok
      exact List.length_eq_zero_iff.1 (by simpa using this)
  | pair n a r iha ihr =>
    -- the chain of a struct's fields
    have hfs : ∀ (l : List Field) (off tot fuel : Nat) (cs : List Value), (Sh.pair n a r).ok P (.fs l off tot) = true → AtTg enc P w base held fuel cs (.fs l off tot) → Rd w (.pair n a r) cs := by
      intro l off tot fuel cs hok h
      simp only [Sh.ok] at hok
      split at hok <;> simp at hok
      rename_i f l
      obtain ⟨⟨⟨⟨h1, h2⟩, h5⟩, h3⟩, h4⟩ := hok
      obtain ⟨g1, g2⟩ := h
      obtain ⟨x, hx⟩ := g2 f (by simp) (by omega)
      refine ⟨by omega, ?_, ?_⟩
      · rw [h1, Nat.sub_self, List.drop_zero, h2] at hx
        exact iha (.ty f.type) fuel _ h3 ⟨x, hx⟩
      · refine ihr (.fs l (off + n) tot) fuel _ h4 ⟨by rw [List.length_drop]; omega, fun f' hf' ho => ?_⟩
        obtain ⟨x', hx'⟩ := g2 f' (by simp [hf']) (by omega)
        refine ⟨x', ?_⟩
        rw [List.drop_drop, show n + (f'.offset - (off + n)) = f'.offset - off by omega]
        exact hx'
    have harr : ∀ (m : Nat) (e : TypeId) (fuel : Nat) (cs : List Value), (Sh.pair n a r).ok P (.arr m e) = true → AtTg enc P w base held fuel cs (.arr m e) → Rd w (.pair n a r) cs := by
      intro m e fuel cs hok h
      simp [Sh.ok] at hok
      obtain ⟨⟨⟨h0, h2⟩, h3⟩, h4⟩ := hok
      obtain ⟨g1, g2⟩ := h
      obtain ⟨m, rfl⟩ : ∃ m', m = m' + 1 := ⟨m - 1, by omega⟩
      rw [h2] at g1 g2
      have g1' : cs.length = m * n + n := by rw [g1, Nat.succ_mul]
      obtain ⟨x, hx⟩ := g2 0 (by omega)
      refine ⟨by omega, ?_, ?_⟩
      · rw [Nat.zero_mul, List.drop_zero] at hx
        exact iha (.ty e) fuel _ h3 ⟨x, hx⟩
      · refine ihr (.arr m e) fuel _ h4 ⟨by rw [List.length_drop, h2]; omega, fun i hi => ?_⟩
        obtain ⟨x', hx'⟩ := g2 (i + 1) (by omega)
        refine ⟨x', ?_⟩
        rw [h2, List.drop_drop, show n + i * n = (i + 1) * n by rw [Nat.succ_mul]; omega]
        exact hx'
    intro tg fuel cs hok h
    cases tg with
    | ty t =>
      simp only [Sh.ok] at hok
      obtain ⟨x, hx⟩ := h
      split at hok
      · rename_i fs ht
        split at hok
        · rename_i f l hfl
          obtain ⟨xs, n', rfl, _, hl, hxl, hall⟩ := DataW.trod_struct ht hx
          have hok' : (Sh.pair n a r).ok P (.fs fs.toList 0 (P.cellsOf t)) = true := by
            simp only [Sh.ok, hfl, Nat.zero_add]
            exact hok
          refine hfs fs.toList 0 (P.cellsOf t) n' cs hok' ⟨by omega, fun f' hf' _ => ?_⟩
          obtain ⟨i, hi, rfl⟩ := List.getElem_of_mem hf'
          have hi' : i < fs.size := by simpa using hi
          have h2 := hall i fs[i] (by simp [hi'])
          have hix : i < xs.length := by omega
          rw [List.getElem?_eq_getElem hix] at h2
          exact ⟨_, by simpa using h2⟩
        · simp at hok
      · rename_i m e ht
        simp at hok
        obtain ⟨⟨⟨⟨h0, h1⟩, h2⟩, h3⟩, h4⟩ := hok
        obtain ⟨xs, n', rfl, _, hl, hxl, hall⟩ := DataW.trod_array ht hx
        refine harr m e n' cs (by simp [Sh.ok, h0, h2, h3, h4]) ⟨by rw [hl, h1, h2], fun i hi => ?_⟩
        have h5 := hall i hi
        rw [List.getElem?_eq_getElem (by omega)] at h5
        exact ⟨_, h5⟩
      · simp at hok
    | fs l off tot => exact hfs l off tot fuel cs hok h
    | arr m e => exact harr m e fuel cs hok h

/-- A value reads as data of a shape. -/
def RdV (w : World) (sh : Sh) (v : Value) : Prop :=
  match sh with
  | .int k => ∃ n, v = .int k n ∧ (Lit.int k n).wf = true
  | .bool => ∃ b, v = .bool b
  | .str => ∃ s, v = .string s ∧ s.size ≤ maxLen
  | .slice n s => Rd w (.slice n s) [v]
  | .nil => ∃ cs : List Value, v = .agg cs.toArray ∧ Rd w .nil cs
  | .pair n a r => ∃ cs : List Value, v = .agg cs.toArray ∧ Rd w (.pair n a r) cs

theorem rdv_of (sh : Sh) {r : Reach} {b0 : Nat} {t : TypeId} {v : Value} {d : DataW H} {ps : List MemPlace} (hok : sh.ok P (.ty t) = true) (hval : Value.okWide P w r b0 t v)
    (hd : DataW.Trod enc P w base (fun _ => true) held t v d ps) : RdV w sh v := by
  cases sh with
  | int k =>
    simp only [Sh.ok] at hok
    split at hok <;> simp at hok
    subst hok
    obtain ⟨n, h1, _, _, h2⟩ := open_int (by assumption) hval hd
    exact ⟨n, h1, h2⟩
  | bool =>
    simp only [Sh.ok] at hok
    split at hok <;> simp at hok
    obtain ⟨n, h1, _⟩ := open_bool (by assumption) hval hd
    exact ⟨n, h1⟩
  | str =>
    simp only [Sh.ok] at hok
    split at hok <;> simp at hok
    obtain ⟨n, h1, _, _, h2⟩ := open_string (by assumption) hval hd
    exact ⟨n, h1, h2⟩
  | slice n s =>
    have hok' := hok
    simp only [Sh.ok] at hok
    split at hok <;> simp at hok
    obtain ⟨a, len, cap, rfl⟩ := okWide_slice (by assumption) hval
    obtain ⟨fuel, hf⟩ := hd
    exact rd_of_trod (.slice n s) (.ty t) fuel _ hok' ⟨_, hf⟩
  | nil => exact Bool.noConfusion (show false = true from hok)
  | pair n a r =>
    have hok' := hok
    simp only [Sh.ok] at hok
    obtain ⟨fuel, hf⟩ := hd
    split at hok
    · obtain ⟨cs, rfl, _⟩ := okWide_struct (by assumption) hval
      exact ⟨cs.toList, rfl, rd_of_trod (.pair n a r) (.ty t) fuel _ hok' ⟨_, hf⟩⟩
    · rename_i ht
      simp only [Value.okWide, ht] at hval
      obtain ⟨cs, rfl, _, _⟩ := hval
      exact ⟨cs.toList, rfl, rd_of_trod (.pair n a r) (.ty t) fuel _ hok' ⟨_, hf⟩⟩
    · simp at hok

theorem trodAll_below (hl : laidOutB P = true) {W W' : World} (hb : Below W.heap.size W W') : ∀ (ts : List TypeId) (vs : List Value) (ds : List (DataW H)) (ps : List MemPlace),
    (ts.all fun t => P.readableRec t && decide (t < P.types.size)) = true → DataW.TrodAll enc P W 0 (fun _ => true) true ts vs ds ps → DataW.TrodAll enc P W' 0 (fun b => decide (b < W.heap.size)) true ts vs ds ps
  | [], [], [], ps, _, h => h
  | t :: ts, v :: vs, d :: ds, ps, hok, h => by
    obtain ⟨p, q, h1, h2, rfl⟩ := h
    simp only [List.all_cons, Bool.and_eq_true, decide_eq_true_eq] at hok
    refine ⟨p, q, Below.trod hl hok.1.1 hok.1.2 h1 hb ?_, trodAll_below hl hb ts vs ds q hok.2 h2, rfl⟩
    obtain ⟨m, hm⟩ := h1
    exact DataW.trod_lt m _ _ _ hm
  | [], _ :: _, _, _, _, h => h.elim
  | [], [], _ :: _, _, _, h => h.elim
  | _ :: _, [], _, _, _, h => h.elim
  | _ :: _, _ :: _, [], _, _, h => h.elim
end
/-- A part of one cell ahead of others. -/
theorem rd_one {w : World} {a r : Sh} {cs : List Value} (h : Rd w (.pair 1 a r) cs) : ∃ c cs', cs = c :: cs' ∧ Rd w a [c] ∧ Rd w r cs' := by
  obtain ⟨h1, h2, h3⟩ := h
  cases cs with
  | nil => simp at h1
  | cons c cs' => exact ⟨c, cs', rfl, h2, h3⟩
/-- A part of n cells ahead of others. -/
theorem rd_part {w : World} {n : Nat} {a r : Sh} {cs : List Value} (h : Rd w (.pair n a r) cs) : ∃ c cs', cs = c ++ cs' ∧ c.length = n ∧ Rd w a c ∧ Rd w r cs' := by
  obtain ⟨h1, h2, h3⟩ := h
  exact ⟨_, _, (List.take_append_drop n cs).symm, by rw [List.length_take]; omega, h2, h3⟩
theorem rd_nil {w : World} {cs : List Value} (h : Rd w .nil cs) : cs = [] := h
theorem rd_int {w : World} {k : IntKind} {c : Value} (h : Rd w (.int k) [c]) : ∃ n, c = .int k n ∧ (Lit.int k n).wf = true := by
  obtain ⟨n, h1, h2⟩ := h
  exact ⟨n, by simpa using h1, h2⟩
/-- Two numbers in a row of cells. -/
theorem rd_two {w : World} {k1 k2 : IntKind} {cs : List Value} (h : Rd w (.pair 1 (.int k1) (.pair 1 (.int k2) .nil)) cs) : ∃ a b, cs = [.int k1 a, .int k2 b] ∧ (Lit.int k1 a).wf = true ∧ (Lit.int k2 b).wf = true := by
  obtain ⟨c, cs', rfl, h1, h2⟩ := rd_one h
  obtain ⟨d, cs'', rfl, h3, h4⟩ := rd_one h2
  obtain rfl := rd_nil h4
  obtain ⟨a, rfl, wa⟩ := rd_int h1
  obtain ⟨b, rfl, wb⟩ := rd_int h3
  exact ⟨a, b, rfl, wa, wb⟩
/-- A slice of elements of one cell at least: nothing in it, or its cells. -/
theorem rd_slice {w : World} {n : Nat} {s : Sh} {v : Value} (h : RdV w (.slice (n + 1) s) v) : ∃ (a : Option Addr) (len cap : Nat) (xs : Nat → List Value), v = .slice a len cap ∧ len ≤ cap ∧ cap ≤ maxLen ∧
    (len = 0 ∨ ∃ b o, a = some ⟨b, o, none⟩ ∧ b < w.heap.size ∧ ∀ i, i < len → (xs i).length = n + 1 ∧ (∀ j, j < n + 1 → w.cell? ⟨b, o + (i * (n + 1) + j), none⟩ = (xs i)[j]?) ∧ Rd w s (xs i)) := by
  rcases h with h | ⟨a, len, cap, xs, h1, h2, h3, h4⟩
  · simp at h
    exact ⟨none, 0, 0, fun _ => [], h, Nat.le_refl _, Nat.zero_le _, .inl rfl⟩
  · simp at h1
    subst h1
    refine ⟨some a, len, cap, xs, rfl, h2, h3, ?_⟩
    rcases Nat.eq_zero_or_pos len with h0 | h0
    · exact .inl h0
    · right
      obtain ⟨g1, g2, _⟩ := h4 0 h0
      have e0 := g2 0 (by omega)
      rw [Nat.zero_mul, List.getElem?_eq_getElem (by omega)] at e0
      have e1 : w.cell? a = some (xs 0)[0] := by simpa [Addr.add] using e0
      have hsp : a.spot = none := by
        cases hs : a.spot with
        | none => rfl
        | some s => simp [World.cell?, hs] at e1; split at e1 <;> simp at e1
      obtain ⟨b, o, sp⟩ := a
      simp at hsp
      subst hsp
      refine ⟨b, o, rfl, World.block_lt_of_cell? w ⟨b, o, none⟩ e1, fun i hi => ?_⟩
      obtain ⟨k1, k2, k3⟩ := h4 i hi
      refine ⟨k1, fun j hj => ?_, k3⟩
      rw [← k2 j hj]
      unfold Addr.add
      split
      · rename_i hz; rw [hz]; rfl
      · rfl
/-- A function that picks, for each index below n, what there is. -/
theorem pick_lt {α : Type} [Inhabited α] {n : Nat} {p : Nat → α → Prop} (h : ∀ i, i < n → ∃ x, p i x) : ∃ f : Nat → α, ∀ i, i < n → p i (f i) := by
  refine ⟨fun i => if hi : i < n then Classical.choose (h i hi) else default, fun i hi => ?_⟩
  simp only [hi, dif_pos]
  exact Classical.choose_spec (h i hi)
theorem laidOut : laidOutB Try.prog = true := by kernel_rfl
theorem ownKnobs : ownKnob Try.prog.godebug = none := by kernel_rfl
end Go.Proofs.Ytmidcnfmphlneaa

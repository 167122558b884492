/- Slices of structs as rows in memory; a configuration as an argument. -/
import Derived.Test.YtmidcnfmphlneaaRead
import Derived.Test.YtmidcnfmphlneaaLists
namespace Go.Proofs.Ytmidcnfmphlneaa
open Go.RowKit
set_option linter.unusedSimpArgs false
set_option linter.unusedVariables false

/-- The cells of a row of structs of k cells. -/
theorem flat_len {α : Type} (f : α → List Value) (k : Nat) (hf : ∀ x, (f x).length = k) (l : List α) : (l.flatMap f).length = l.length * k := by
  induction l with
  | nil => simp
  | cons x l ih => rw [List.flatMap_cons, List.length_append, hf, ih, List.length_cons, Nat.add_mul]; omega
theorem flat_at {α : Type} (f : α → List Value) (k : Nat) (hf : ∀ x, (f x).length = k) (l : List α) (i j : Nat) (hi : i < l.length) (hj : j < k) : (l.flatMap f)[i * k + j]? = (f l[i])[j]? := by
  induction l generalizing i with
  | nil => simp at hi
  | cons x l ih =>
    rw [List.flatMap_cons]
    cases i with
    | zero => rw [Nat.zero_mul, Nat.zero_add, List.getElem?_append_left (by rw [hf]; exact hj)]; rfl
    | succ i =>
      have h1 : (i + 1) * k = k + i * k := by rw [Nat.add_mul]; omega
      rw [List.getElem?_append_right (by rw [hf, h1]; omega), hf, h1, show k + i * k + j - k = i * k + j by omega, ih i (by simpa using hi)]
      rfl
/-- A slice of structs, each read by 'hd'. -/
theorem rows_of {α : Type} [Inhabited α] {w : World} {n : Nat} {s : Sh} {v : Value} (f : α → List Value) (ok : α → Prop) (hd : ∀ cs, cs.length = n + 1 → Rd w s cs → ∃ x, cs = f x ∧ ok x) (hf : ∀ x, (f x).length = n + 1)
    (h : RdV w (.slice (n + 1) s) v) : ∃ l : List α, RowAt w (n + 1) v l.length (l.flatMap f) ∧ ∀ x ∈ l, ok x := by
  obtain ⟨a, len, cap, F, rfl, h1, h2, h3⟩ := rd_slice h
  by_cases hn : len = 0
  · subst hn
    exact ⟨[], ⟨by simp, .inl ⟨⟨a, cap, rfl, h2⟩, rfl⟩⟩, by simp⟩
  rcases h3 with h3 | ⟨b, o, rfl, hb, hF⟩
  · exact absurd h3 hn
  · have hX : ∀ i, ∃ x : α, i < len → F i = f x ∧ ok x := fun i => by
      by_cases hi : i < len
      · obtain ⟨h4, h5, h6⟩ := hF i hi
        obtain ⟨x, hx⟩ := hd _ h4 h6
        exact ⟨x, fun _ => hx⟩
      · exact ⟨default, fun h => absurd h hi⟩
    obtain ⟨X, hX⟩ := Classical.axiomOfChoice hX
    have hl : ((List.range len).map X).length = len := by simp
    refine ⟨(List.range len).map X, ⟨flat_len f _ hf _, .inr ⟨b, o, cap, by rw [hl], by rw [hl]; exact h1, h2, hb, fun q hq => ?_⟩⟩, fun x hx => ?_⟩
    · rw [hl] at hq
      have hi : q / (n + 1) < len := Nat.div_lt_of_lt_mul (by rw [Nat.mul_comm]; exact hq)
      have hj : q % (n + 1) < n + 1 := Nat.mod_lt _ (by omega)
      have hq2 : q = q / (n + 1) * (n + 1) + q % (n + 1) := by rw [Nat.mul_comm]; exact (Nat.div_add_mod q (n + 1)).symm
      generalize q / (n + 1) = i at hi hq2
      generalize q % (n + 1) = j at hj hq2
      subst hq2
      rw [(hF i hi).2.1 j hj, flat_at f _ hf _ i j (by rw [hl]; exact hi) hj, (hX i hi).1]
      simp
    · obtain ⟨i, hi, rfl⟩ := List.mem_map.1 hx
      exact (hX i (by simpa using hi)).2
/-- A number that fits int. -/
def I64 (n : Int) : Prop := (Lit.int .i64 n).wf = true
theorem I64.le {n : Int} (h : I64 n) : -9223372036854775808 ≤ n ∧ n ≤ 9223372036854775807 := bounds_i64 h

structure Chn where
  (kind frm to words depth period boot : Int)
instance : Inhabited Chn := ⟨⟨0, 0, 0, 0, 0, 0, 0⟩⟩
structure Win where
  (part start len : Int)
instance : Inhabited Win := ⟨⟨0, 0, 0⟩⟩
def partC (p : Int × Int) : List Value := [.int .i64 p.1, .int .i64 p.2]
def chanC (x : Chn) : List Value := [.int .i64 x.kind, .int .i64 x.frm, .int .i64 x.to, .int .i64 x.words, .int .i64 x.depth, .int .i64 x.period, .int .u32 x.boot]
def winC (x : Win) : List Value := [.int .i64 x.part, .int .i64 x.start, .int .i64 x.len]
def Chn.ok (x : Chn) : Prop := I64 x.kind ∧ I64 x.frm ∧ I64 x.to ∧ I64 x.words ∧ I64 x.depth ∧ I64 x.period ∧ (Lit.int .u32 x.boot).wf = true
def Win.ok (x : Win) : Prop := I64 x.part ∧ I64 x.start ∧ I64 x.len
/-- A configuration. -/
structure Cfg where
  (parts : List (Int × Int)) (chans : List Chn) (l0 : Int) (w0 : List Win) (l1 : Int) (w1 : List Win)
def Cfg.ok (C : Cfg) : Prop := (∀ p ∈ C.parts, I64 p.1 ∧ I64 p.2) ∧ (∀ x ∈ C.chans, x.ok) ∧ I64 C.l0 ∧ I64 C.l1 ∧ (∀ x ∈ C.w0, x.ok) ∧ ∀ x ∈ C.w1, x.ok
def Cfg.great (C : Cfg) : Bool := decide (100 < C.parts.length ∨ 100 < C.chans.length ∨ 100 < C.w0.length ∨ 100 < C.w1.length)
/-- Its value, and what lies in memory. -/
def CfgAt (w : World) (v : Value) (C : Cfg) : Prop := C.ok ∧ ∃ pa pc ca cc a0 c0 a1 c1, v = .agg #[.slice pa C.parts.length pc, .slice ca C.chans.length cc, .int .i64 C.l0, .slice a0 C.w0.length c0, .int .i64 C.l1, .slice a1 C.w1.length c1] ∧
  (C.parts.length ≤ pc ∧ pc ≤ maxLen) ∧ (C.chans.length ≤ cc ∧ cc ≤ maxLen) ∧ (C.w0.length ≤ c0 ∧ c0 ≤ maxLen) ∧ (C.w1.length ≤ c1 ∧ c1 ≤ maxLen) ∧
  RowAt w 2 (.slice pa C.parts.length pc) C.parts.length (C.parts.flatMap partC) ∧ RowAt w 7 (.slice ca C.chans.length cc) C.chans.length (C.chans.flatMap chanC) ∧
  RowAt w 3 (.slice a0 C.w0.length c0) C.w0.length (C.w0.flatMap winC) ∧ RowAt w 3 (.slice a1 C.w1.length c1) C.w1.length (C.w1.flatMap winC)
theorem CfgAt.below {w w1 : World} {v : Value} {C : Cfg} (h : CfgAt w v C) (hb : Below w.heap.size w w1) : CfgAt w1 v C := by
  obtain ⟨ho, pa, pc, ca, cc, a0, c0, a1, c1, hv, b1, b2, b3, b4, h1, h2, h3, h4⟩ := h
  exact ⟨ho, pa, pc, ca, cc, a0, c0, a1, c1, hv, b1, b2, b3, b4, h1.below hb, h2.below hb, h3.below hb, h4.below hb⟩
theorem partC_len (p : Int × Int) : (partC p).length = 2 := rfl
theorem chanC_len (p : Chn) : (chanC p).length = 7 := rfl
theorem winC_len (p : Win) : (winC p).length = 3 := rfl

def partSh : Sh := .pair 1 (.int .i64) (.pair 1 (.int .i64) .nil)
def chanSh : Sh := .pair 1 (.int .i64) (.pair 1 (.int .i64) (.pair 1 (.int .i64) (.pair 1 (.int .i64) (.pair 1 (.int .i64) (.pair 1 (.int .i64) (.pair 1 (.int .u32) .nil))))))
def winSh : Sh := .pair 1 (.int .i64) (.pair 1 (.int .i64) (.pair 1 (.int .i64) .nil))
def frameSh : Sh := .pair 1 (.int .i64) (.pair 1 (.slice 3 winSh) .nil)
def cfgSh : Sh := .pair 1 (.slice 2 partSh) (.pair 1 (.slice 7 chanSh) (.pair 4 (.pair 2 frameSh (.pair 2 frameSh .nil)) .nil))
theorem partSh_of {w : World} (cs : List Value) (h : Rd w partSh cs) : ∃ x, cs = partC x ∧ I64 x.1 ∧ I64 x.2 := by
  obtain ⟨a, b, h1, h2, h3⟩ := rd_two h
  exact ⟨(a, b), h1, h2, h3⟩
theorem winSh_of {w : World} (cs : List Value) (h : Rd w winSh cs) : ∃ x, cs = winC x ∧ x.ok := by
  obtain ⟨c, r, rfl, h1, h2⟩ := rd_one h
  obtain ⟨x, y, rfl, h3, h4⟩ := rd_two h2
  obtain ⟨n, rfl, hn⟩ := rd_int h1
  exact ⟨⟨n, x, y⟩, rfl, hn, h3, h4⟩
theorem chanSh_of {w : World} (cs : List Value) (h : Rd w chanSh cs) : ∃ x, cs = chanC x ∧ x.ok := by
  obtain ⟨c1, r, rfl, h1, h⟩ := rd_one h
  obtain ⟨c2, r, rfl, h2, h⟩ := rd_one h
  obtain ⟨c3, r, rfl, h3, h⟩ := rd_one h
  obtain ⟨c4, r, rfl, h4, h⟩ := rd_one h
  obtain ⟨c5, r, rfl, h5, h⟩ := rd_one h
  obtain ⟨x, y, rfl, h6, h7⟩ := rd_two h
  obtain ⟨n1, rfl, k1⟩ := rd_int h1
  obtain ⟨n2, rfl, k2⟩ := rd_int h2
  obtain ⟨n3, rfl, k3⟩ := rd_int h3
  obtain ⟨n4, rfl, k4⟩ := rd_int h4
  obtain ⟨n5, rfl, k5⟩ := rd_int h5
  exact ⟨⟨n1, n2, n3, n4, n5, x, y⟩, rfl, k1, k2, k3, k4, k5, h6, h7⟩
theorem partsAt_of {w : World} {v : Value} (h : RdV w (.slice 2 partSh) v) : ∃ l : List (Int × Int), RowAt w 2 v l.length (l.flatMap partC) ∧ ∀ x ∈ l, I64 x.1 ∧ I64 x.2 :=
  rows_of (n := 1) partC (fun x => I64 x.1 ∧ I64 x.2) (fun cs _ h => partSh_of cs h) partC_len h
theorem chansAt_of {w : World} {v : Value} (h : RdV w (.slice 7 chanSh) v) : ∃ l : List Chn, RowAt w 7 v l.length (l.flatMap chanC) ∧ ∀ x ∈ l, x.ok :=
  rows_of (n := 6) chanC Chn.ok (fun cs _ h => chanSh_of cs h) chanC_len h
theorem winsAt_of {w : World} {v : Value} (h : RdV w (.slice 3 winSh) v) : ∃ l : List Win, RowAt w 3 v l.length (l.flatMap winC) ∧ ∀ x ∈ l, x.ok :=
  rows_of (n := 2) winC Win.ok (fun cs _ h => winSh_of cs h) winC_len h
theorem frameSh_of {w : World} (cs : List Value) (h : Rd w frameSh cs) : ∃ n v, cs = [.int .i64 n, v] ∧ I64 n ∧ RdV w (.slice 3 winSh) v := by
  obtain ⟨c1, r, rfl, h1, h⟩ := rd_one h
  obtain ⟨c2, r, rfl, h2, h⟩ := rd_one h
  obtain rfl := rd_nil h
  obtain ⟨n1, rfl, k1⟩ := rd_int h1
  exact ⟨n1, c2, rfl, k1, h2⟩
theorem cfgAt_of {w : World} {v : Value} (h : RdV w cfgSh v) : ∃ C, CfgAt w v C := by
  obtain ⟨cs, rfl, h⟩ : ∃ cs : List Value, v = .agg cs.toArray ∧ Rd w cfgSh cs := h
  obtain ⟨vp, r, rfl, h1, h⟩ := rd_one h
  obtain ⟨vc, r, rfl, h2, h⟩ := rd_one h
  obtain ⟨fs, r, rfl, _, h3, h⟩ := rd_part h
  obtain rfl := rd_nil h
  obtain ⟨f0, r, rfl, _, h4, h⟩ := rd_part h3
  obtain ⟨f1, r, rfl, _, h5, h⟩ := rd_part h
  obtain rfl := rd_nil h
  obtain ⟨n0, v0, rfl, k0, h6⟩ := frameSh_of _ h4
  obtain ⟨n1, v1, rfl, k1, h7⟩ := frameSh_of _ h5
  obtain ⟨ps, p1, p2⟩ := partsAt_of (w := w) (v := vp) h1
  obtain ⟨xs, x1, x2⟩ := chansAt_of (w := w) (v := vc) h2
  obtain ⟨u0, y1, y2⟩ := winsAt_of h6
  obtain ⟨u1, z1, z2⟩ := winsAt_of h7
  obtain ⟨pa, pc, rfl, bp1, bp2⟩ := p1.shape
  obtain ⟨ca, cc, rfl, bc1, bc2⟩ := x1.shape
  obtain ⟨a0, c0, rfl, b01, b02⟩ := y1.shape
  obtain ⟨a1, c1, rfl, b11, b12⟩ := z1.shape
  exact ⟨⟨ps, xs, n0, u0, n1, u1⟩, ⟨p2, x2, k0, k1, y2, z2⟩, pa, pc, ca, cc, a0, c0, a1, c1, rfl, ⟨bp1, bp2⟩, ⟨bc1, bc2⟩, ⟨b01, b02⟩, ⟨b11, b12⟩, p1, x1, y1, z1⟩
end Go.Proofs.Ytmidcnfmphlneaa

/- Standings and requests; what the signs say of a request: by the program's rows, and by the reference. Nothing of the program but the numbers of its types. -/
import Derived.Test.YtdajadfgiifioaaDoorLay1
import Derived.Test.YtdajadfgiifioaaDoorInts
import Derived.Test.YtdajadfgiifioaaDoorSpanPure
namespace Go.Proofs.YtdajadfgiifioaaDoor
open Go.RowKit
set_option linter.unusedSimpArgs false
set_option linter.unusedVariables false

structure Std where
  (part : Int) (normal : Bool) (made : List Int) (valid : List Int)
structure Rqt where
  (op port addr : Int) (data : List Int)
def Std.ok (S : Std) : Prop := I64 S.part ∧ (∀ x ∈ S.made, I64 x) ∧ ∀ x ∈ S.valid, I64 x
def Rqt.ok (R : Rqt) : Prop := I64 R.op ∧ I64 R.port ∧ 0 ≤ R.addr ∧ R.addr ≤ 18446744073709551615
def StdAt (w : World) (v : Value) (S : Std) : Prop := S.ok ∧ ∃ ma mc va vc, v = .agg #[.int .i64 S.part, .bool S.normal, .slice ma S.made.length mc, .slice va S.valid.length vc] ∧
  (S.made.length ≤ mc ∧ mc ≤ maxLen) ∧ (S.valid.length ≤ vc ∧ vc ≤ maxLen) ∧ RowAt w 1 (.slice ma S.made.length mc) S.made.length (S.made.map (Value.int .i64)) ∧ RowAt w 1 (.slice va S.valid.length vc) S.valid.length (S.valid.map (Value.int .i64))
def RqtAt (w : World) (v : Value) (R : Rqt) : Prop := R.ok ∧ ∃ da dc, v = .agg #[.int .i64 R.op, .int .i64 R.port, .int .u64 R.addr, .slice da R.data.length dc] ∧
  (R.data.length ≤ dc ∧ dc ≤ maxLen) ∧ RowAt w 1 (.slice da R.data.length dc) R.data.length (R.data.map (Value.int .u32))
theorem StdAt.below {w w1 : World} {v : Value} {S : Std} (h : StdAt w v S) (hb : Below w.heap.size w w1) : StdAt w1 v S := by
  obtain ⟨ho, ma, mc, va, vc, hv, b1, b2, h1, h2⟩ := h
  exact ⟨ho, ma, mc, va, vc, hv, b1, b2, h1.below hb, h2.below hb⟩
theorem RqtAt.below {w w1 : World} {v : Value} {R : Rqt} (h : RqtAt w v R) (hb : Below w.heap.size w w1) : RqtAt w1 v R := by
  obtain ⟨ho, da, dc, hv, b1, h1⟩ := h
  exact ⟨ho, da, dc, hv, b1, h1.below hb⟩
def stdSh : Sh := .pair 1 (.int .i64) (.pair 1 .bool (.pair 1 (.slice 1 (.int .i64)) (.pair 1 (.slice 1 (.int .i64)) .nil)))
def rqtSh : Sh := .pair 1 (.int .i64) (.pair 1 (.int .i64) (.pair 1 (.int .u64) (.pair 1 (.slice 1 (.int .u32)) .nil)))
theorem rd_boolS {w : World} {c : Value} (h : Rd w .bool [c]) : ∃ b, c = .bool b := by
  obtain ⟨b, h1⟩ := h
  exact ⟨b, by simpa using h1⟩
theorem stdAt_of {w : World} {v : Value} (h : RdV w stdSh v) : ∃ S, StdAt w v S := by
  obtain ⟨cs, rfl, h⟩ : ∃ cs : List Value, v = .agg cs.toArray ∧ Rd w stdSh cs := h
  obtain ⟨c1, r, rfl, h1, h⟩ := rd_one h
  obtain ⟨c2, r, rfl, h2, h⟩ := rd_one h
  obtain ⟨c3, r, rfl, h3, h⟩ := rd_one h
  obtain ⟨c4, r, rfl, h4, h⟩ := rd_one h
  obtain rfl := rd_nil h
  obtain ⟨n, rfl, hn⟩ := rd_int h1
  obtain ⟨b, rfl⟩ := rd_boolS h2
  obtain ⟨xs, x1, x2⟩ := intsAt_of (w := w) (v := c3) h3
  obtain ⟨ys, y1, y2⟩ := intsAt_of (w := w) (v := c4) h4
  obtain ⟨ma, mc, rfl, b1, b2⟩ := x1.shape
  obtain ⟨va, vc, rfl, b3, b4⟩ := y1.shape
  exact ⟨⟨n, b, xs, ys⟩, ⟨hn, x2, y2⟩, ma, mc, va, vc, rfl, ⟨b1, b2⟩, ⟨b3, b4⟩, x1, y1⟩
theorem rqtAt_of {w : World} {v : Value} (h : RdV w rqtSh v) : ∃ R, RqtAt w v R := by
  obtain ⟨cs, rfl, h⟩ : ∃ cs : List Value, v = .agg cs.toArray ∧ Rd w rqtSh cs := h
  obtain ⟨c1, r, rfl, h1, h⟩ := rd_one h
  obtain ⟨c2, r, rfl, h2, h⟩ := rd_one h
  obtain ⟨c3, r, rfl, h3, h⟩ := rd_one h
  obtain ⟨c4, r, rfl, h4, h⟩ := rd_one h
  obtain rfl := rd_nil h
  obtain ⟨n1, rfl, k1⟩ := rd_int h1
  obtain ⟨n2, rfl, k2⟩ := rd_int h2
  obtain ⟨n3, rfl, k3⟩ := rd_int h3
  obtain ⟨xs, x1, x2⟩ := intsAt_of (w := w) (v := c4) h4
  obtain ⟨da, dc, rfl, b1, b2⟩ := x1.shape
  exact ⟨⟨n1, n2, n3, xs⟩, ⟨k1, k2, bounds_u64 k3⟩, da, dc, rfl, ⟨b1, b2⟩, x1⟩

/-- A port: its channel, whose it is, is it the source, is there one. -/
structure PortV where
  (chan part : Int) (source is : Bool)
def chnAt (C : Cfg) (k : Int) : Chn := C.chans.getD k.toNat default
def portB (C : Cfg) (p : Int) : Bool := accB C && decide (0 ≤ p ∧ p < 2 * (C.chans.length : Int))
def portV (C : Cfg) (p : Int) : PortV := if portB C p = true then (if p % 2 = 0 then ⟨p / 2, (chnAt C (p / 2)).frm, true, true⟩ else ⟨p / 2, (chnAt C (p / 2)).to, false, true⟩) else ⟨0, 0, false, false⟩
/-- A request with all that is known of it. -/
structure Ask where
  (op : Int) (own made normal source k1 k2 l0 l1 lw priv : Bool)
def privA (C : Cfg) (p a : Int) : Bool := decide (a < 2147483648) && hasB (privB C p).1 (privB C p).2 a
def askD (C : Cfg) (S : Std) (R : Rqt) (x : Chn) (source own : Bool) : Ask := ⟨R.op, own, S.made.contains R.port, S.normal, source, x.kind == 1, x.kind == 2, R.data.length == 0, R.data.length == 1, decide (x.words < (R.data.length : Int)), privA C S.part R.addr⟩
def askV (C : Cfg) (S : Std) (R : Rqt) : Ask := askD C S R (if (portV C R.port).is then chnAt C (portV C R.port).chan else default) (portV C R.port).source ((portV C R.port).is && ((portV C R.port).part == S.part))
/-- The rows: whose ops they are, whether they hold, the code. -/
def opsR : Nat → List Int
  | 0 => [1]
  | 1 => [1]
  | 2 => [1, 2]
  | 3 => [3, 4, 5, 6, 7]
  | 4 => [3, 4, 5, 6, 7]
  | 5 => [3]
  | 6 => [4]
  | 7 => [5]
  | 8 => [6]
  | 9 => [3, 5]
  | 10 => [3, 5]
  | 11 => [9]
  | 12 => [8, 9]
  | _ => []
def codeR : Nat → Int
  | 0 => 4
  | 1 => 1
  | 2 => 5
  | 3 => 3
  | 4 => 5
  | 5 => 5
  | 6 => 5
  | 7 => 5
  | 8 => 5
  | 9 => 3
  | 10 => 4
  | 11 => 3
  | 12 => 6
  | _ => 0
def holdR (D : Ask) : Nat → Bool
  | 0 => !D.own
  | 1 => D.made
  | 2 => D.normal
  | 3 => !D.own || !D.made
  | 4 => !D.normal
  | 5 => !(D.k1 && D.source)
  | 6 => !(D.k1 && !D.source)
  | 7 => !(D.k2 && D.source)
  | 8 => !(D.k2 && !D.source)
  | 9 => D.l0
  | 10 => D.lw
  | 11 => !D.l1
  | 12 => !D.priv
  | _ => false
def hitR (D : Ask) (i : Nat) : Bool := (opsR i).contains D.op && holdR D i
def firstR (D : Ask) : Nat → Option Int
  | 0 => none
  | k + 1 => match firstR D k with
    | some c => some c
    | none => if hitR D k then some (codeR k) else none
theorem firstR_hit {D : Ask} {k : Nat} (h : firstR D k = none) (hh : hitR D k = true) : firstR D (k + 1) = some (codeR k) := by rw [firstR, h]; simp [hh]
theorem firstR_not {D : Ask} {k : Nat} (h : firstR D k = none) (hh : hitR D k = false) : firstR D (k + 1) = none := by rw [firstR, h]; simp [hh]
theorem firstR_keeps {D : Ask} {k : Nat} {c : Int} (h : firstR D k = some c) : ∀ n, k ≤ n → firstR D n = some c := by
  intro n hn
  induction n with
  | zero => obtain rfl : k = 0 := by omega
            exact h
  | succ n ih =>
    by_cases hk : k = n + 1
    · subst hk; exact h
    · rw [firstR, ih (by omega)]
/-- The code of a request. -/
def refV (C : Cfg) (S : Std) (R : Rqt) : Int :=
  if accB C = true ∧ 0 ≤ S.part ∧ S.part < C.parts.length then
    if 1 ≤ R.op ∧ R.op ≤ 9 then (firstR (askV C S R) 13).getD 0 else 3
  else 4
/-- The reference's code of a request that talks. -/
def talkV (D : Ask) : Int :=
  if !D.own || !D.made then 3 else if !D.normal then 5
  else if (decide (D.op = 3) && (!D.k1 || !D.source)) || (decide (D.op = 4) && (!D.k1 || D.source)) then 5
  else if (decide (D.op = 5) && (!D.k2 || !D.source)) || (decide (D.op = 6) && (!D.k2 || D.source)) then 5
  else if decide (D.op = 3) || decide (D.op = 5) then (if D.l0 then 3 else if D.lw then 4 else 0) else 0
def docV (D : Ask) : Int :=
  if D.op = 1 then (if !D.own then 4 else if D.made then 1 else if D.normal then 5 else 0)
  else if D.op = 2 then (if D.normal then 5 else 0)
  else if 3 ≤ D.op ∧ D.op ≤ 7 then talkV D
  else if decide (D.op = 9) && !D.l1 then 3 else if D.priv then 0 else 6
theorem docV_first (D : Ask) (h1 : 1 ≤ D.op) (h9 : D.op ≤ 9) : (firstR D 13).getD 0 = docV D := by
  obtain ⟨op, own, made, normal, source, k1, k2, l0, l1, lw, priv⟩ := D
  have h : op = 1 ∨ op = 2 ∨ op = 3 ∨ op = 4 ∨ op = 5 ∨ op = 6 ∨ op = 7 ∨ op = 8 ∨ op = 9 := by simp at h1 h9; omega
  clear h1 h9
  rcases h with rfl | rfl | rfl | rfl | rfl | rfl | rfl | rfl | rfl <;> revert own made normal source k1 k2 l0 l1 lw priv <;> decide +kernel
end Go.Proofs.YtdajadfgiifioaaDoor

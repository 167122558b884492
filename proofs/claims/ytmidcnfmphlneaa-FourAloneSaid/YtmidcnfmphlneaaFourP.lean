/- The four slots, plain: the steps of a writer and of a reader on a list of words. Nothing of the program. -/
import Derived.Test.YtmidcnfmphlneaaLists
namespace Go.Proofs.Ytmidcnfmphlneaa
/-- Where a channel's words lie: its source's and its destination's first word, a message's words, the period. -/
structure Plc where
  (src rd words period : Int)
def Plc.slot (p : Plc) (pair : Int) : Int := p.src + 1 + pair
def Plc.buf (p : Plc) (pair index : Int) : Int := p.src + 3 + (2 * pair + index) * (2 + p.words)
def ldW (ws : List Int) (a : Int) : Int := ws.getD a.toNat 0
def stW (ws : List Int) (a v : Int) : List Int := ws.set a.toNat v
structure DidV where
  (done : Bool := false) (code : Int := 0) (data : List Int := []) (valid : Bool := false) (count : Int := 0) (mark : Bool := false) (ring : Bool := false) (stamped : Bool := false) (buffer : Int := 0)
structure Wr where
  (pc : Nat) (data : List Int) (pair index : Int) (i : Nat) (marked : Bool)
structure Rdr where
  (pc : Nat) (pair index : Int) (left : Nat) (stamp : Int) (data : List Int)
def wr0 (data : List Int) : Wr := ⟨0, data, 0, 0, 0, false⟩
def rdr0 : Rdr := ⟨0, 0, 0, 0, 0, []⟩
/-- The words behind a writer's step, the writer behind it, and what is told. -/
def wMem (p : Plc) (ws : List Int) (now : Int) (s : Wr) : List Int :=
  match s.pc with
  | 2 => stW ws (p.buf s.pair s.index) s.data.length
  | 3 => stW ws (p.buf s.pair s.index + 1) (now % 4294967296)
  | 4 => stW ws (p.buf s.pair s.index + 2 + s.i) (s.data.getD s.i 0)
  | 5 => stW ws (p.slot s.pair) s.index
  | 6 => stW ws p.src s.pair
  | _ => ws
def wNext (p : Plc) (ws : List Int) (s : Wr) : Wr :=
  match s.pc with
  | 0 => { s with pc := 1, pair := 1 - ldW ws p.rd % 2 }
  | 1 => { s with pc := 2, index := 1 - ldW ws (p.slot s.pair) % 2 }
  | 2 => { s with pc := 3 }
  | 3 => { s with pc := 4 }
  | 4 => { s with pc := if s.i + 1 < s.data.length then 4 else 5, i := s.i + 1 }
  | 5 => { s with pc := 6, marked := ldW ws p.src % 2 == s.pair }
  | 6 => { s with pc := 7 }
  | _ => s
def wDid (p : Plc) (ws : List Int) (s : Wr) : DidV :=
  match s.pc with
  | 2 => { buffer := 1 + (2 * s.pair + s.index) }
  | 3 => { stamped := true }
  | 5 => { mark := ldW ws p.src % 2 == s.pair }
  | 6 => { done := true, mark := !s.marked }
  | _ => {}
def rMem (p : Plc) (ws : List Int) (s : Rdr) : List Int :=
  match s.pc with
  | 1 => stW ws p.rd s.pair
  | _ => ws
def rLeft (p : Plc) (ws : List Int) (s : Rdr) : Int := if ldW ws (p.buf s.pair s.index) ≤ p.words then ldW ws (p.buf s.pair s.index) else p.words
def rNext (p : Plc) (ws : List Int) (s : Rdr) : Rdr :=
  match s.pc with
  | 0 => { s with pc := 1, pair := ldW ws p.src % 2 }
  | 1 => { s with pc := 2 }
  | 2 => { s with pc := 3, index := ldW ws (p.slot s.pair) % 2 }
  | 3 => if ldW ws (p.buf s.pair s.index) = 0 then { s with pc := 6 } else { s with pc := 4, left := (rLeft p ws s).toNat }
  | 4 => { s with pc := 5, stamp := ldW ws (p.buf s.pair s.index + 1) }
  | 5 => { s with pc := if s.data.length + 1 < s.left then 5 else 6, data := s.data ++ [ldW ws (p.buf s.pair s.index + 2 + s.data.length)] }
  | _ => s
def rDid (p : Plc) (ws : List Int) (now : Int) (s : Rdr) : DidV :=
  match s.pc with
  | 3 => if ldW ws (p.buf s.pair s.index) = 0 then { done := true, code := 1, buffer := 1 + (2 * s.pair + s.index) } else { buffer := 1 + (2 * s.pair + s.index) }
  | 5 => if s.data.length + 1 < s.left then {} else { done := true, data := s.data ++ [ldW ws (p.buf s.pair s.index + 2 + s.data.length)], valid := decide (now - s.stamp ≤ p.period) }
  | _ => {}
theorem ldW_st (ws : List Int) (a b v : Int) (h : a.toNat ≠ b.toNat) : ldW (stW ws a v) b = ldW ws b := by
  simp only [ldW, stW, List.getD_eq_getElem?_getD, List.getElem?_set_ne h]
theorem ldW_same (ws : List Int) (a v : Int) (h : a.toNat < ws.length) : ldW (stW ws a v) a = v := by
  simp [ldW, stW, h]
theorem wMem_len (p : Plc) (ws : List Int) (now : Int) (s : Wr) : (wMem p ws now s).length = ws.length := by
  unfold wMem
  split <;> simp [stW]
theorem rMem_len (p : Plc) (ws : List Int) (s : Rdr) : (rMem p ws s).length = ws.length := by
  unfold rMem
  split <;> simp [stW]
/-- The places are right: the reading word lies behind the source's, all lie within n words. -/
structure Plc.ok (p : Plc) (n : Nat) : Prop where
  src : 0 ≤ p.src
  words : 1 ≤ p.words
  rd : p.src + 3 + 4 * (2 + p.words) ≤ p.rd
  len : p.rd < n
def bit (x : Int) : Prop := x = 0 ∨ x = 1
/-- What holds between any two steps: the pairs, the slots, the reading word. -/
structure Inv (p : Plc) (ws : List Int) (w : Wr) (r : Rdr) : Prop where
  wp : bit w.pair
  wi : bit w.index
  rp : bit r.pair
  ri : bit r.index
  tell : 2 ≤ r.pc → r.pc ≤ 5 → ldW ws p.rd % 2 = r.pair
  slot : 2 ≤ w.pc → w.pc ≤ 5 → ldW ws (p.slot w.pair) % 2 = 1 - w.index
  same : 1 ≤ w.pc → w.pc ≤ 5 → 3 ≤ r.pc → r.pc ≤ 5 → w.pair = r.pair → ldW ws (p.slot w.pair) % 2 = r.index
theorem Inv.apart {p : Plc} {ws : List Int} {w : Wr} {r : Rdr} (h : Inv p ws w r) (h1 : 2 ≤ w.pc) (h2 : w.pc ≤ 5) (h3 : 3 ≤ r.pc) (h4 : r.pc ≤ 5) : ¬ (w.pair = r.pair ∧ w.index = r.index) := by
  rintro ⟨e1, e2⟩
  have a := h.slot h1 h2
  have b := h.same (by omega) h2 h3 h4 e1
  omega
end Go.Proofs.Ytmidcnfmphlneaa

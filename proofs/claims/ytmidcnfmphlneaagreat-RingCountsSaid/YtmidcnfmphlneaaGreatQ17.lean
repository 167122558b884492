/- The ring, plain: the steps of a send and of a receive on a list of words; what holds between any two steps when message after message is sent. Nothing of the program. -/
import Derived.Test.YtmidcnfmphlneaaGreatQ11
namespace Go.Proofs.YtmidcnfmphlneaaGreat
open Go.RowKit
set_option linter.unusedSimpArgs false
set_option linter.unusedVariables false

/-- Where a queue's words lie: its number's words, its cells (of so many words each, and one), how many. -/
structure Pl where
  (tail head base words deep : Int)
/-- The cell of a number. -/
def Pl.cell (p : Pl) (own : Int) : Int := p.base + (own % p.deep) * (1 + p.words)
def nx32 (x : Int) : Int := (x + 1) % 4294967296
structure Snd where
  (pc : Nat) (own : Int) (data : List Int) (cell : Int)
structure Rcv where
  (pc : Nat) (own : Int) (left : Nat) (data : List Int) (cell : Int)
def snd0 (p : Pl) (own : Int) (data : List Int) : Snd := ⟨0, own, data, p.cell own⟩
def rcv0 (p : Pl) (own : Int) : Rcv := ⟨0, own, 0, [], p.cell own⟩
def fullP (p : Pl) (ws : List Int) (own : Int) : Bool := decide (p.deep ≤ (own - ldW ws p.head) % 4294967296)
def emptyP (p : Pl) (ws : List Int) (own : Int) : Bool := decide (ldW ws p.tail = own)
/-- A send: 0 looks, 1 stores how many words, 2 .. store the words, then the mark, then the bell. -/
def sMem (p : Pl) (ws : List Int) (s : Snd) : List Int :=
  if s.pc = 1 then stW ws s.cell s.data.length
  else if 2 ≤ s.pc ∧ s.pc < 2 + s.data.length then stW ws (s.cell + 1 + ((s.pc - 2 : Nat) : Int)) (s.data.getD (s.pc - 2) 0)
  else if s.pc = 2 + s.data.length then stW ws p.tail (nx32 s.own) else ws
def sNext (p : Pl) (ws : List Int) (s : Snd) : Snd :=
  if s.pc = 0 then (if fullP p ws s.own = true then { s with pc := 4 + s.data.length } else { s with pc := 1 })
  else if s.pc = 2 + s.data.length then { s with pc := 3 + s.data.length, own := nx32 s.own }
  else if s.pc < 4 + s.data.length then { s with pc := s.pc + 1 } else s
def sDid (p : Pl) (ws : List Int) (s : Snd) : DidV :=
  if s.pc = 0 then (if fullP p ws s.own = true then { done := true, mark := true, code := 2 } else {})
  else if s.pc = 2 + s.data.length then { mark := true }
  else if s.pc = 3 + s.data.length then { done := true, ring := true } else {}
/-- A receive: 0 looks, 1 loads how many words, 2 loads a word, or, where there is none left, marks; 3: done. -/
def qMem (p : Pl) (ws : List Int) (r : Rcv) : List Int := if r.pc = 2 ∧ r.left ≤ r.data.length then stW ws p.head (nx32 r.own) else ws
def qLeft (p : Pl) (ws : List Int) (r : Rcv) : Int := if ldW ws r.cell ≤ p.words then ldW ws r.cell else p.words
def qNext (p : Pl) (ws : List Int) (r : Rcv) : Rcv :=
  if r.pc = 0 then (if emptyP p ws r.own = true then { r with pc := 3 } else { r with pc := 1 })
  else if r.pc = 1 then { r with pc := 2, left := (qLeft p ws r).toNat }
  else if r.pc = 2 then (if r.data.length < r.left then { r with data := r.data ++ [ldW ws (r.cell + 1 + r.data.length)] } else { r with pc := 3, own := nx32 r.own }) else r
def qDid (p : Pl) (ws : List Int) (r : Rcv) : DidV :=
  if r.pc = 0 then (if emptyP p ws r.own = true then { done := true, mark := true, code := 2 } else {})
  else if r.pc = 2 ∧ r.left ≤ r.data.length then { done := true, mark := true, data := r.data } else {}
theorem sMem_len (p : Pl) (ws : List Int) (s : Snd) : (sMem p ws s).length = ws.length := by
  unfold sMem
  split
  · simp [stW]
  · split
    · simp [stW]
    · split <;> simp [stW]
theorem qMem_len (p : Pl) (ws : List Int) (r : Rcv) : (qMem p ws r).length = ws.length := by
  unfold qMem
  split <;> simp [stW]
/-- The places are right: all of the cells lie behind the source's number and ahead of the destination's. -/
structure Pl.ok (p : Pl) (n : Nat) : Prop where
  tail : 0 ≤ p.tail
  base : p.tail < p.base
  words : 1 ≤ p.words ∧ p.words ≤ 16
  deep : p.deep = 1 ∨ p.deep = 2 ∨ p.deep = 4 ∨ p.deep = 8
  head : p.base + p.deep * (1 + p.words) ≤ p.head
  len : p.head < n
theorem cell_mul (p : Pl) {n : Nat} (ok : p.ok n) (i : Int) (h0 : 0 ≤ i) (h1 : i < p.deep) : 0 ≤ i * (1 + p.words) ∧ i * (1 + p.words) + (1 + p.words) ≤ p.deep * (1 + p.words) := by
  have hw := ok.words
  refine ⟨Int.mul_nonneg h0 (by omega), ?_⟩
  have h2 : (i + 1) * (1 + p.words) ≤ p.deep * (1 + p.words) := Int.mul_le_mul_of_nonneg_right (by omega) (by omega)
  rwa [Int.add_mul, Int.one_mul] at h2
theorem deep_pos {p : Pl} {n : Nat} (ok : p.ok n) : 0 < p.deep := by rcases ok.deep with h | h | h | h <;> omega
theorem cell_at (p : Pl) {n : Nat} (ok : p.ok n) (own : Int) : p.base ≤ p.cell own ∧ p.cell own + 1 + p.words ≤ p.head := by
  have hd := deep_pos ok
  have h := cell_mul p ok (own % p.deep) (Int.emod_nonneg _ (by omega)) (Int.emod_lt_of_pos _ hd)
  have := ok.head
  unfold Pl.cell
  omega
/-- Two numbers whose cells differ: their cells lie apart. -/
theorem cell_apart (p : Pl) {n : Nat} (ok : p.ok n) (a b : Int) (h : a % p.deep ≠ b % p.deep) (i j : Int) (hi : 0 ≤ i ∧ i ≤ p.words) (hj : 0 ≤ j ∧ j ≤ p.words) : p.cell a + i ≠ p.cell b + j := by
  have hw := ok.words
  unfold Pl.cell
  obtain ⟨x, hx⟩ : ∃ x, a % p.deep = x := ⟨_, rfl⟩
  obtain ⟨y, hy⟩ : ∃ y, b % p.deep = y := ⟨_, rfl⟩
  rw [hx, hy] at h ⊢
  rcases Int.lt_or_gt_of_ne h with hlt | hlt
  · have h2 : (x + 1) * (1 + p.words) ≤ y * (1 + p.words) := Int.mul_le_mul_of_nonneg_right (by omega) (by omega)
    rw [Int.add_mul, Int.one_mul] at h2
    omega
  · have h2 : (y + 1) * (1 + p.words) ≤ x * (1 + p.words) := Int.mul_le_mul_of_nonneg_right (by omega) (by omega)
    rw [Int.add_mul, Int.one_mul] at h2
    omega
/-- Numbers go round: the cell of a number that went round is the number's. -/
theorem cell_round (p : Pl) {n : Nat} (ok : p.ok n) (x : Int) : (x % 4294967296) % p.deep = x % p.deep := by
  rcases ok.deep with h | h | h | h <;> rw [h] <;> omega
/-- Message n: its number, so often. -/
def rmsg (wd : Int) (n : Nat) : List Int := List.replicate (1 + n % wd.toNat) ((n : Int) % 4294967296)
theorem rmsg_len (wd : Int) (n : Nat) : (rmsg wd n).length = 1 + n % wd.toNat := by simp [rmsg]
theorem rmsg_le (wd : Int) (n : Nat) (h : 1 ≤ wd) : ((rmsg wd n).length : Int) ≤ wd := by
  rw [rmsg_len]
  have := Nat.mod_lt n (show 0 < wd.toNat by omega)
  omega
/-- A cell has message m. -/
def Has (p : Pl) (ws : List Int) (b : Int) (m : Nat) : Prop := ldW ws (p.cell (b + m)) = (rmsg p.words m).length ∧ ∀ i : Nat, i < (rmsg p.words m).length → ldW ws (p.cell (b + m) + 1 + i) = (m : Int) % 4294967296
/-- The play: the words, the sender, the receiver (pc of one that is idle: behind its last), what was counted. -/
structure Rs where
  (ws : List Int) (s : Snd) (r : Rcv) (sOn rOn : Bool) (sent got n : Nat)
/-- What holds between any two acts, wherever numbers begin (b). -/
structure JR (p : Pl) (b : Int) (z : Rs) : Prop where
  ok : p.ok z.ws.length
  tl : ldW z.ws p.tail = (b + z.sent) % 4294967296
  hd : ldW z.ws p.head = (b + z.got) % 4294967296
  le : z.got ≤ z.sent
  dp : (z.sent : Int) - z.got ≤ p.deep
  whole : ∀ m, z.got ≤ m → m < z.sent → Has p z.ws b m
  idle : z.sOn = false → z.n = z.sent
  sd : z.sOn = true → z.s.data = rmsg p.words z.n ∧ z.s.cell = p.cell (b + z.n) ∧ z.s.pc ≤ 3 + z.s.data.length
  sa : z.sOn = true → z.s.pc ≤ 2 + z.s.data.length → z.n = z.sent ∧ z.s.own = (b + z.n) % 4294967296
  sb : z.sOn = true → z.s.pc = 3 + z.s.data.length → z.n + 1 = z.sent ∧ z.s.own = (b + z.n + 1) % 4294967296
  room : z.sOn = true → 1 ≤ z.s.pc → z.s.pc ≤ 2 + z.s.data.length → (z.sent : Int) - z.got < p.deep
  part : z.sOn = true → 2 ≤ z.s.pc → z.s.pc ≤ 2 + z.s.data.length → ldW z.ws z.s.cell = z.s.data.length ∧ ∀ i : Nat, i < z.s.pc - 2 → ldW z.ws (z.s.cell + 1 + i) = (z.n : Int) % 4294967296
  rc : z.rOn = true → z.r.own = (b + z.got) % 4294967296 ∧ z.r.cell = p.cell (b + z.got) ∧ z.r.pc ≤ 2
  r0 : z.rOn = true → z.r.pc ≤ 1 → z.r.data = []
  r1 : z.rOn = true → 1 ≤ z.r.pc → z.got < z.sent
  r2 : z.rOn = true → z.r.pc = 2 → z.r.left = (rmsg p.words z.got).length ∧ z.r.data = List.replicate z.r.data.length ((z.got : Int) % 4294967296) ∧ z.r.data.length ≤ z.r.left

theorem mod_apart (p : Pl) {n : Nat} (ok : p.ok n) (x y : Int) (h : 0 < x - y) (h2 : x - y < p.deep) : x % p.deep ≠ y % p.deep := by
  rcases ok.deep with e | e | e | e <;> rw [e] at h2 ⊢ <;> omega
theorem Has.st {p : Pl} {ws : List Int} {b : Int} {m : Nat} (ok : p.ok ws.length) (h : Has p ws b m) (a v : Int) (ha : 0 ≤ a) (hne : ∀ i : Int, 0 ≤ i → i ≤ p.words → p.cell (b + m) + i ≠ a) : Has p (stW ws a v) b m := by
  have hc := cell_at p ok (b + m)
  have ht := ok.tail
  have hb := ok.base
  have hw := ok.words
  have hl := rmsg_le p.words m hw.1
  refine ⟨?_, fun i hi => ?_⟩
  · rw [ld_st _ _ _ _ ha (by omega) fun e => hne 0 (by omega) (by omega) (by omega)]
    exact h.1
  · rw [ld_st _ _ _ _ ha (by omega) fun e => hne (1 + i) (by omega) (by omega) (by omega)]
    exact h.2 i hi
theorem JR.full {p : Pl} {b : Int} {z : Rs} (h : JR p b z) (ho : z.s.own = (b + z.sent) % 4294967296) : fullP p z.ws z.s.own = decide ((z.sent : Int) - z.got = p.deep) := by
  have h1 := h.le
  have h2 := h.dp
  have h3 := h.ok.deep
  rw [fullP, h.hd, ho]
  refine decide_eq_decide.2 ?_
  have e : ((b + (z.sent : Int)) % 4294967296 - (b + (z.got : Int)) % 4294967296) % 4294967296 = (z.sent : Int) - z.got := by omega
  rw [e]
  omega
theorem JR.empty {p : Pl} {b : Int} {z : Rs} (h : JR p b z) (ho : z.r.own = (b + z.got) % 4294967296) : emptyP p z.ws z.r.own = decide (z.sent = z.got) := by
  have h1 := h.le
  have h2 := h.dp
  have h3 := h.ok.deep
  rw [emptyP, h.tl, ho]
  refine decide_eq_decide.2 ?_
  omega
/-- A new send, a new receive. -/
def begS (p : Pl) (b : Int) (z : Rs) : Rs := { z with s := snd0 p ((b + z.n) % 4294967296) (rmsg p.words z.n), sOn := true }
def begQ (p : Pl) (b : Int) (z : Rs) : Rs := { z with r := rcv0 p ((b + z.got) % 4294967296), rOn := true }
theorem cell_own (p : Pl) {n : Nat} (ok : p.ok n) (x : Int) : p.cell (x % 4294967296) = p.cell x := by rw [Pl.cell, Pl.cell, cell_round p ok]
theorem JR.begS {p : Pl} {b : Int} {z : Rs} (h : JR p b z) (h0 : z.sOn = false) : JR p b (Go.Proofs.YtmidcnfmphlneaaGreat.begS p b z) where
  ok := h.ok
  tl := h.tl
  hd := h.hd
  le := h.le
  dp := h.dp
  whole := h.whole
  idle := fun e => absurd e (by simp [Go.Proofs.YtmidcnfmphlneaaGreat.begS])
  sd := fun _ => ⟨rfl, cell_own p h.ok _, Nat.zero_le _⟩
  sa := fun _ _ => ⟨h.idle h0, rfl⟩
  sb := fun _ e => absurd e (by simp [Go.Proofs.YtmidcnfmphlneaaGreat.begS, snd0]; omega)
  room := fun _ e => absurd e (by simp [Go.Proofs.YtmidcnfmphlneaaGreat.begS, snd0])
  part := fun _ e => absurd e (by simp [Go.Proofs.YtmidcnfmphlneaaGreat.begS, snd0])
  rc := h.rc
  r0 := h.r0
  r1 := h.r1
  r2 := h.r2
theorem JR.begQ {p : Pl} {b : Int} {z : Rs} (h : JR p b z) : JR p b (Go.Proofs.YtmidcnfmphlneaaGreat.begQ p b z) where
  ok := h.ok
  tl := h.tl
  hd := h.hd
  le := h.le
  dp := h.dp
  whole := h.whole
  idle := h.idle
  sd := h.sd
  sa := h.sa
  sb := h.sb
  room := h.room
  part := h.part
  rc := fun _ => ⟨rfl, cell_own p h.ok _, Nat.zero_le _⟩
  r0 := fun _ _ => rfl
  r1 := fun _ e => absurd e (by simp [Go.Proofs.YtmidcnfmphlneaaGreat.begQ, rcv0])
  r2 := fun _ e => absurd e (by simp [Go.Proofs.YtmidcnfmphlneaaGreat.begQ, rcv0])
/-- The send's step in the play. -/
def stepS (p : Pl) (z : Rs) : Rs :=
  { z with ws := sMem p z.ws z.s, s := sNext p z.ws z.s, sOn := !(sDid p z.ws z.s).done, sent := if (sDid p z.ws z.s).mark = true ∧ (sDid p z.ws z.s).done = false then z.sent + 1 else z.sent, n := if (sDid p z.ws z.s).done = true ∧ (sDid p z.ws z.s).code = 0 then z.n + 1 else z.n }
/-- The receive's step in the play. -/
def stepQ (p : Pl) (z : Rs) : Rs :=
  { z with ws := qMem p z.ws z.r, r := qNext p z.ws z.r, rOn := !(qDid p z.ws z.r).done, got := if (qDid p z.ws z.r).done = true ∧ (qDid p z.ws z.r).code = 0 then z.got + 1 else z.got }
/-- A store into the cell that is being filled. -/
theorem JR.fill {p : Pl} {b : Int} {z : Rs} (h : JR p b z) (h0 : z.sOn = true) (h1 : 1 ≤ z.s.pc) (h2 : z.s.pc ≤ 1 + z.s.data.length) (k : Int) (hk : 0 ≤ k ∧ k ≤ p.words) (v : Int)
    (hpart : ldW (stW z.ws (z.s.cell + k) v) z.s.cell = z.s.data.length ∧ ∀ i : Nat, i < z.s.pc + 1 - 2 → ldW (stW z.ws (z.s.cell + k) v) (z.s.cell + 1 + i) = (z.n : Int) % 4294967296) :
    JR p b { z with ws := stW z.ws (z.s.cell + k) v, s := { z.s with pc := z.s.pc + 1 } } := by
  have ok := h.ok
  obtain ⟨d1, d2, d3⟩ := h.sd h0
  obtain ⟨a1, a2⟩ := h.sa h0 (by omega)
  have hr := h.room h0 h1 (by omega)
  have hc := cell_at p ok (b + z.n)
  have htl := ok.tail
  have hbs := ok.base
  have hln := ok.len
  rw [← d2] at hc
  have hw := ok.words
  exact {
    ok := by show p.ok (stW z.ws _ v).length; rw [stW, List.length_set]; exact ok
    tl := by show ldW (stW z.ws _ v) p.tail = _; rw [ld_st _ _ _ _ (by omega) (by omega) (by omega)]; exact h.tl
    hd := by show ldW (stW z.ws _ v) p.head = _; rw [ld_st _ _ _ _ (by omega) (by omega) (by omega)]; exact h.hd
    le := h.le
    dp := h.dp
    whole := fun m m1 m2 => (h.whole m m1 m2).st ok _ _ (by omega) fun i i1 i2 => by
      rw [d2]
      have m1' : z.got ≤ m := m1
      have m2' : m < z.sent := m2
      exact cell_apart p ok _ _ (fun e => mod_apart p ok (b + z.n) (b + m) (by omega) (by omega) e.symm) i k ⟨i1, i2⟩ hk
    idle := h.idle
    sd := fun _ => ⟨d1, d2, by show z.s.pc + 1 ≤ 3 + z.s.data.length; omega⟩
    sa := fun _ _ => ⟨a1, a2⟩
    sb := fun _ e => by have e' : z.s.pc + 1 = 3 + z.s.data.length := e; omega
    room := fun _ _ _ => hr
    part := fun _ _ _ => hpart
    rc := h.rc
    r0 := h.r0
    r1 := h.r1
    r2 := h.r2 }

theorem rmsg_get (wd : Int) (n i : Nat) (h : i < (rmsg wd n).length) : (rmsg wd n).getD i 0 = (n : Int) % 4294967296 := by
  rw [List.getD_eq_getElem?_getD, List.getElem?_eq_getElem h]
  simp [rmsg]
theorem JR.sIdle {p : Pl} {b : Int} {z : Rs} (h : JR p b z) (n' : Nat) (hn : n' = z.sent) (s' : Snd) : JR p b { z with s := s', sOn := false, n := n' } where
  ok := h.ok
  tl := h.tl
  hd := h.hd
  le := h.le
  dp := h.dp
  whole := h.whole
  idle := fun _ => hn
  sd := fun e => absurd e (by simp)
  sa := fun e => absurd e (by simp)
  sb := fun e => absurd e (by simp)
  room := fun e => absurd e (by simp)
  part := fun e => absurd e (by simp)
  rc := h.rc
  r0 := h.r0
  r1 := h.r1
  r2 := h.r2
theorem JR.sLook {p : Pl} {b : Int} {z : Rs} (h : JR p b z) (h0 : z.sOn = true) (h1 : z.s.pc = 0) (hr : (z.sent : Int) - z.got < p.deep) : JR p b { z with s := { z.s with pc := 1 } } where
  ok := h.ok
  tl := h.tl
  hd := h.hd
  le := h.le
  dp := h.dp
  whole := h.whole
  idle := h.idle
  sd := fun e => ⟨(h.sd e).1, (h.sd e).2.1, by show 1 ≤ 3 + z.s.data.length; omega⟩
  sa := fun e _ => h.sa e (by omega)
  sb := fun e q => by have q' : 1 = 3 + z.s.data.length := q; omega
  room := fun _ _ _ => hr
  part := fun _ q => by have q' : 2 ≤ 1 := q; omega
  rc := h.rc
  r0 := h.r0
  r1 := h.r1
  r2 := h.r2
theorem JR.sMark {p : Pl} {b : Int} {z : Rs} (h : JR p b z) (h0 : z.sOn = true) (h1 : z.s.pc = 2 + z.s.data.length) : JR p b { z with ws := stW z.ws p.tail (nx32 z.s.own), s := { z.s with pc := 3 + z.s.data.length, own := nx32 z.s.own }, sent := z.sent + 1 } := by
  have ok := h.ok
  obtain ⟨d1, d2, d3⟩ := h.sd h0
  obtain ⟨a1, a2⟩ := h.sa h0 (by omega)
  have hr := h.room h0 (by omega) (by omega)
  obtain ⟨p1, p2⟩ := h.part h0 (by omega) (by omega)
  have htl := ok.tail
  have hbs := ok.base
  have hln := ok.len
  have hhd := ok.head
  have hw := ok.words
  have hc0 := cell_at p ok (b + z.n)
  have hle := h.le
  have hnx : nx32 z.s.own = (b + ((z.sent + 1 : Nat) : Int)) % 4294967296 := by rw [nx32, a2, a1]; omega
  have hth : p.tail < p.head := by omega
  have hst : ∀ m, Has p z.ws b m → Has p (stW z.ws p.tail (nx32 z.s.own)) b m := fun m hm => hm.st ok _ _ htl fun i i1 i2 => by
    have hc := cell_at p ok (b + m)
    omega
  exact {
    ok := by show p.ok (stW z.ws _ _).length; rw [stW, List.length_set]; exact ok
    tl := by show ldW (stW z.ws _ _) p.tail = _; rw [ldW_same _ _ _ (by omega)]; exact hnx
    hd := by show ldW (stW z.ws _ _) p.head = _; rw [ld_st _ _ _ _ (by omega) (by omega) (by omega)]; exact h.hd
    le := by show z.got ≤ z.sent + 1; omega
    dp := by show ((z.sent + 1 : Nat) : Int) - z.got ≤ p.deep; omega
    whole := fun m m1 m2 => by
      have m2' : m < z.sent + 1 := m2
      by_cases hm : m < z.sent
      · exact hst m (h.whole m m1 hm)
      · obtain rfl : m = z.n := by omega
        refine hst z.n ⟨?_, fun i hi => ?_⟩
        · rw [← d2, p1, d1]
        · rw [← d2]
          exact p2 i (by rw [h1, d1]; omega)
    idle := fun e => absurd e (by show ¬ z.sOn = false; rw [h0]; simp)
    sd := fun _ => ⟨d1, d2, Nat.le_refl _⟩
    sa := fun _ e => by have e' : 3 + z.s.data.length ≤ 2 + z.s.data.length := e; omega
    sb := fun _ _ => ⟨by show z.n + 1 = z.sent + 1; omega, by show nx32 z.s.own = (b + (z.n : Int) + 1) % 4294967296; rw [nx32, a2]; omega⟩
    room := fun _ _ e => by have e' : 3 + z.s.data.length ≤ 2 + z.s.data.length := e; omega
    part := fun _ _ e => by have e' : 3 + z.s.data.length ≤ 2 + z.s.data.length := e; omega
    rc := h.rc
    r0 := h.r0
    r1 := fun e q => by show z.got < z.sent + 1; omega
    r2 := h.r2 }
theorem JR.s {p : Pl} {b : Int} {z : Rs} (h : JR p b z) (h0 : z.sOn = true) : JR p b (stepS p z) := by
  obtain ⟨d1, d2, d3⟩ := h.sd h0
  have hlen : 1 ≤ z.s.data.length := by rw [d1, rmsg_len]; omega
  have hle : (z.s.data.length : Int) ≤ p.words := by rw [d1]; exact rmsg_le _ _ h.ok.words.1
  by_cases c0 : z.s.pc = 0
  · obtain ⟨a1, a2⟩ := h.sa h0 (by omega)
    have hf := h.full (by rw [a2, a1])
    have hm : sMem p z.ws z.s = z.ws := by
      unfold sMem
      rw [if_neg (by omega), if_neg (by omega), if_neg (by omega)]
    by_cases hfull : (z.sent : Int) - z.got = p.deep
    · rw [decide_eq_true hfull] at hf
      have e1 : sDid p z.ws z.s = { done := true, mark := true, code := 2 } := by unfold sDid; rw [if_pos c0, if_pos hf]
      have e2 : stepS p z = { z with s := sNext p z.ws z.s, sOn := false, n := z.n } := by unfold stepS; rw [hm, e1]; simp
      rw [e2]
      exact h.sIdle _ a1 _
    · rw [decide_eq_false hfull] at hf
      have e1 : sDid p z.ws z.s = {} := by unfold sDid; rw [if_pos c0, if_neg (by rw [hf]; simp)]
      have e3 : sNext p z.ws z.s = { z.s with pc := 1 } := by unfold sNext; rw [if_pos c0, if_neg (by rw [hf]; simp)]
      have e2 : stepS p z = { z with s := { z.s with pc := 1 } } := by unfold stepS; rw [hm, e1, e3]; simp [h0]
      rw [e2]
      have := h.dp
      exact h.sLook h0 c0 (by omega)
  · by_cases c1 : z.s.pc = 1
    · have e1 : sDid p z.ws z.s = {} := by unfold sDid; rw [if_neg c0, if_neg (by omega), if_neg (by omega)]
      have e3 : sNext p z.ws z.s = { z.s with pc := z.s.pc + 1 } := by unfold sNext; rw [if_neg c0, if_neg (by omega), if_pos (by omega)]
      have em : sMem p z.ws z.s = stW z.ws (z.s.cell + 0) z.s.data.length := by unfold sMem; rw [if_pos c1, Int.add_zero]
      have e2 : stepS p z = { z with ws := stW z.ws (z.s.cell + 0) z.s.data.length, s := { z.s with pc := z.s.pc + 1 } } := by unfold stepS; rw [em, e1, e3]; simp [h0]
      rw [e2]
      have hc := cell_at p h.ok (b + z.n)
      have hl := h.ok.len
      have hb := h.ok.base
      have ht := h.ok.tail
      have hwd := h.ok.words
      rw [← d2] at hc
      refine h.fill h0 (by omega) (by omega) 0 (by omega) _ ⟨?_, fun i hi => by omega⟩
      rw [Int.add_zero, ldW_same _ _ _ (by omega)]
    · by_cases c2 : z.s.pc < 2 + z.s.data.length
      · have e1 : sDid p z.ws z.s = {} := by unfold sDid; rw [if_neg c0, if_neg (by omega), if_neg (by omega)]
        have e3 : sNext p z.ws z.s = { z.s with pc := z.s.pc + 1 } := by unfold sNext; rw [if_neg c0, if_neg (by omega), if_pos (by omega)]
        have hv : z.s.data.getD (z.s.pc - 2) 0 = (z.n : Int) % 4294967296 := by rw [d1]; exact rmsg_get _ _ _ (by rw [← d1]; omega)
        have em : sMem p z.ws z.s = stW z.ws (z.s.cell + (1 + ((z.s.pc - 2 : Nat) : Int))) ((z.n : Int) % 4294967296) := by unfold sMem; rw [if_neg c1, if_pos ⟨by omega, c2⟩, hv, Int.add_assoc]
        have e2 : stepS p z = { z with ws := stW z.ws (z.s.cell + (1 + ((z.s.pc - 2 : Nat) : Int))) ((z.n : Int) % 4294967296), s := { z.s with pc := z.s.pc + 1 } } := by unfold stepS; rw [em, e1, e3]; simp [h0]
        rw [e2]
        have hc := cell_at p h.ok (b + z.n)
        have hl := h.ok.len
        have hb := h.ok.base
        have ht := h.ok.tail
        have hwd := h.ok.words
        obtain ⟨p1, p2⟩ := h.part h0 (by omega) (by omega)
        rw [← d2] at hc
        refine h.fill h0 (by omega) (by omega) _ (by omega) _ ⟨?_, fun i hi => ?_⟩
        · rw [ld_st _ _ _ _ (by omega) (by omega) (by omega)]
          exact p1
        · by_cases hi2 : i < z.s.pc - 2
          · rw [ld_st _ _ _ _ (by omega) (by omega) (by omega)]
            exact p2 i hi2
          · obtain rfl : i = z.s.pc - 2 := by omega
            rw [← Int.add_assoc, ldW_same _ _ _ (by omega)]
      · by_cases c3 : z.s.pc = 2 + z.s.data.length
        · have e1 : sDid p z.ws z.s = { mark := true } := by unfold sDid; rw [if_neg c0, if_pos c3]
          have e3 : sNext p z.ws z.s = { z.s with pc := 3 + z.s.data.length, own := nx32 z.s.own } := by unfold sNext; rw [if_neg c0, if_pos c3]
          have em : sMem p z.ws z.s = stW z.ws p.tail (nx32 z.s.own) := by unfold sMem; rw [if_neg c1, if_neg (by omega), if_pos c3]
          have e2 : stepS p z = { z with ws := stW z.ws p.tail (nx32 z.s.own), s := { z.s with pc := 3 + z.s.data.length, own := nx32 z.s.own }, sent := z.sent + 1 } := by unfold stepS; rw [em, e1, e3]; simp [h0]
          rw [e2]
          exact h.sMark h0 c3
        · have c4 : z.s.pc = 3 + z.s.data.length := by omega
          have e1 : sDid p z.ws z.s = { done := true, ring := true } := by unfold sDid; rw [if_neg c0, if_neg c3, if_pos c4]
          have em : sMem p z.ws z.s = z.ws := by unfold sMem; rw [if_neg c1, if_neg (by omega), if_neg c3]
          have e2 : stepS p z = { z with s := sNext p z.ws z.s, sOn := false, n := z.n + 1 } := by unfold stepS; rw [em, e1]; simp
          rw [e2]
          exact h.sIdle _ (h.sb h0 c4).1 _

theorem JR.qIdle {p : Pl} {b : Int} {z : Rs} (h : JR p b z) (r' : Rcv) : JR p b { z with r := r', rOn := false } where
  ok := h.ok
  tl := h.tl
  hd := h.hd
  le := h.le
  dp := h.dp
  whole := h.whole
  idle := h.idle
  sd := h.sd
  sa := h.sa
  sb := h.sb
  room := h.room
  part := h.part
  rc := fun e => absurd e (by simp)
  r0 := fun e => absurd e (by simp)
  r1 := fun e => absurd e (by simp)
  r2 := fun e => absurd e (by simp)
/-- A step of the receive that changes the receiver alone. -/
theorem JR.qKeep {p : Pl} {b : Int} {z : Rs} (h : JR p b z) (r' : Rcv) (h1 : r'.own = (b + z.got) % 4294967296 ∧ r'.cell = p.cell (b + z.got) ∧ r'.pc ≤ 2) (h2 : r'.pc ≤ 1 → r'.data = []) (h3 : 1 ≤ r'.pc → z.got < z.sent) (h4 : r'.pc = 2 → r'.left = (rmsg p.words z.got).length ∧ r'.data = List.replicate r'.data.length ((z.got : Int) % 4294967296) ∧ r'.data.length ≤ r'.left) : JR p b { z with r := r' } where
  ok := h.ok
  tl := h.tl
  hd := h.hd
  le := h.le
  dp := h.dp
  whole := h.whole
  idle := h.idle
  sd := h.sd
  sa := h.sa
  sb := h.sb
  room := h.room
  part := h.part
  rc := fun _ => h1
  r0 := fun _ => h2
  r1 := fun _ => h3
  r2 := fun _ => h4
theorem JR.qMark {p : Pl} {b : Int} {z : Rs} (h : JR p b z) (h0 : z.rOn = true) (h1 : z.r.pc = 2) (r' : Rcv) : JR p b { z with ws := stW z.ws p.head (nx32 z.r.own), r := r', rOn := false, got := z.got + 1 } := by
  have ok := h.ok
  obtain ⟨o1, o2, o3⟩ := h.rc h0
  have hlt := h.r1 h0 (by omega)
  have htl := ok.tail
  have hbs := ok.base
  have hln := ok.len
  have hhd := ok.head
  have hw := ok.words
  have hth : p.tail < p.head := by
    have hc := cell_at p ok (b + z.n)
    omega
  have hnx : nx32 z.r.own = (b + ((z.got + 1 : Nat) : Int)) % 4294967296 := by rw [nx32, o1]; omega
  have hdp := h.dp
  exact {
    ok := by show p.ok (stW z.ws _ _).length; rw [stW, List.length_set]; exact ok
    tl := by show ldW (stW z.ws _ _) p.tail = _; rw [ld_st _ _ _ _ (by omega) (by omega) (by omega)]; exact h.tl
    hd := by show ldW (stW z.ws _ _) p.head = _; rw [ldW_same _ _ _ (by omega)]; exact hnx
    le := hlt
    dp := by show (z.sent : Int) - ((z.got + 1 : Nat) : Int) ≤ p.deep; omega
    whole := fun m m1 m2 => by
      have m1' : z.got + 1 ≤ m := m1
      refine (h.whole m (by omega) m2).st ok _ _ (by omega) fun i i1 i2 => ?_
      have hc := cell_at p ok (b + m)
      omega
    idle := h.idle
    sd := h.sd
    sa := h.sa
    sb := h.sb
    room := fun e1 e2 e3 => by
      have := h.room e1 e2 e3
      show (z.sent : Int) - ((z.got + 1 : Nat) : Int) < p.deep
      omega
    part := fun e1 e2 e3 => by
      obtain ⟨d1, d2, d3⟩ := h.sd e1
      obtain ⟨p1, p2⟩ := h.part e1 e2 e3
      have hc := cell_at p ok (b + z.n)
      rw [← d2] at hc
      have hle : (z.s.data.length : Int) ≤ p.words := by rw [d1]; exact rmsg_le _ _ hw.1
      have e3' : z.s.pc ≤ 2 + z.s.data.length := e3
      refine ⟨?_, fun i hi => ?_⟩
      · show ldW (stW z.ws _ _) z.s.cell = _
        rw [ld_st _ _ _ _ (by omega) (by omega) (by omega)]
        exact p1
      · have hi' : i < z.s.pc - 2 := hi
        show ldW (stW z.ws _ _) (z.s.cell + 1 + i) = _
        rw [ld_st _ _ _ _ (by omega) (by omega) (by omega)]
        exact p2 i hi'
    rc := fun e => absurd e (by simp)
    r0 := fun e => absurd e (by simp)
    r1 := fun e => absurd e (by simp)
    r2 := fun e => absurd e (by simp) }
theorem JR.q {p : Pl} {b : Int} {z : Rs} (h : JR p b z) (h0 : z.rOn = true) : JR p b (stepQ p z) := by
  obtain ⟨o1, o2, o3⟩ := h.rc h0
  have hw := h.ok.words
  by_cases c0 : z.r.pc = 0
  · have hm : qMem p z.ws z.r = z.ws := by unfold qMem; rw [if_neg (by omega)]
    have he := h.empty o1
    by_cases hem : z.sent = z.got
    · rw [decide_eq_true hem] at he
      have e1 : qDid p z.ws z.r = { done := true, mark := true, code := 2 } := by unfold qDid; rw [if_pos c0, if_pos he]
      have e2 : stepQ p z = { z with r := qNext p z.ws z.r, rOn := false } := by unfold stepQ; rw [hm, e1]; simp
      rw [e2]
      exact h.qIdle _
    · rw [decide_eq_false hem] at he
      have e1 : qDid p z.ws z.r = {} := by unfold qDid; rw [if_pos c0, if_neg (by rw [he]; simp)]
      have e3 : qNext p z.ws z.r = { z.r with pc := 1 } := by unfold qNext; rw [if_pos c0, if_neg (by rw [he]; simp)]
      have e2 : stepQ p z = { z with r := { z.r with pc := 1 } } := by unfold stepQ; rw [hm, e1, e3]; simp [h0]
      rw [e2]
      have hle := h.le
      exact h.qKeep _ ⟨o1, o2, by show 1 ≤ 2; omega⟩ (fun _ => h.r0 h0 (by omega)) (fun _ => by omega) (fun e => by have e' : 1 = 2 := e; omega)
  · have hlt := h.r1 h0 (by omega)
    obtain ⟨w1, w2⟩ := h.whole z.got (Nat.le_refl _) hlt
    rw [← o2] at w1 w2
    by_cases c1 : z.r.pc = 1
    · have hm : qMem p z.ws z.r = z.ws := by unfold qMem; rw [if_neg (by omega)]
      have e1 : qDid p z.ws z.r = {} := by unfold qDid; rw [if_neg c0, if_neg (by omega)]
      have hl : (qLeft p z.ws z.r).toNat = (rmsg p.words z.got).length := by
        have := rmsg_le p.words z.got hw.1
        unfold qLeft
        rw [w1, if_pos this, Int.toNat_natCast]
      have e3 : qNext p z.ws z.r = { z.r with pc := 2, left := (rmsg p.words z.got).length } := by unfold qNext; rw [if_neg c0, if_pos c1, hl]
      have e2 : stepQ p z = { z with r := { z.r with pc := 2, left := (rmsg p.words z.got).length } } := by unfold stepQ; rw [hm, e1, e3]; simp [h0]
      rw [e2]
      have hd := h.r0 h0 (by omega)
      exact h.qKeep _ ⟨o1, o2, Nat.le_refl _⟩ (fun e => by have e' : 2 ≤ 1 := e; omega) (fun _ => hlt) (fun _ => ⟨rfl, by show z.r.data = _; rw [hd]; rfl, by show z.r.data.length ≤ _; rw [hd]; exact Nat.zero_le _⟩)
    · have c2 : z.r.pc = 2 := by omega
      obtain ⟨l1, l2, l3⟩ := h.r2 h0 c2
      by_cases hlt2 : z.r.data.length < z.r.left
      · have hm : qMem p z.ws z.r = z.ws := by unfold qMem; rw [if_neg (by omega)]
        have e1 : qDid p z.ws z.r = {} := by unfold qDid; rw [if_neg c0, if_neg (by omega)]
        have hv := w2 z.r.data.length (by omega)
        have e3 : qNext p z.ws z.r = { z.r with data := z.r.data ++ [(z.got : Int) % 4294967296] } := by unfold qNext; rw [if_neg c0, if_neg c1, if_pos c2, if_pos hlt2, hv]
        have e2 : stepQ p z = { z with r := { z.r with data := z.r.data ++ [(z.got : Int) % 4294967296] } } := by unfold stepQ; rw [hm, e1, e3]; simp [h0]
        rw [e2]
        refine h.qKeep _ ⟨o1, o2, o3⟩ (fun e => by have e' : z.r.pc ≤ 1 := e; omega) (fun _ => hlt) (fun _ => ⟨l1, ?_, by show (z.r.data ++ [_]).length ≤ z.r.left; simp; omega⟩)
        show z.r.data ++ [_] = List.replicate (z.r.data ++ [_]).length _
        rw [List.length_append, List.length_singleton, List.replicate_succ', ← l2]
      · have hm : qMem p z.ws z.r = stW z.ws p.head (nx32 z.r.own) := by unfold qMem; rw [if_pos ⟨c2, by omega⟩]
        have e1 : qDid p z.ws z.r = { done := true, mark := true, data := z.r.data } := by unfold qDid; rw [if_neg c0, if_pos ⟨c2, by omega⟩]
        have e2 : stepQ p z = { z with ws := stW z.ws p.head (nx32 z.r.own), r := qNext p z.ws z.r, rOn := false, got := z.got + 1 } := by unfold stepQ; rw [hm, e1]; simp
        rw [e2]
        exact h.qMark h0 c2 _
/-- What a receive that ends tells. -/
theorem JR.told_q {p : Pl} {b : Int} {z : Rs} (h : JR p b z) (h0 : z.rOn = true) (hd : (qDid p z.ws z.r).done = true) :
    ((qDid p z.ws z.r).code = 2 ∧ (qDid p z.ws z.r).data = [] ∧ z.r.pc = 0 ∧ z.sent = z.got ∧ (stepQ p z).got = z.got ∧ (qNext p z.ws z.r).own = z.r.own) ∨
    ((qDid p z.ws z.r).code = 0 ∧ (qDid p z.ws z.r).data = rmsg p.words z.got ∧ z.got < z.sent ∧ z.r.pc = 2 ∧ z.r.data.length = (rmsg p.words z.got).length ∧ (stepQ p z).got = z.got + 1 ∧ (qNext p z.ws z.r).own = (b + z.got + 1) % 4294967296) := by
  obtain ⟨o1, o2, o3⟩ := h.rc h0
  by_cases c0 : z.r.pc = 0
  · have he := h.empty o1
    by_cases hem : z.sent = z.got
    · rw [decide_eq_true hem] at he
      have e1 : qDid p z.ws z.r = { done := true, mark := true, code := 2 } := by unfold qDid; rw [if_pos c0, if_pos he]
      have e3 : qNext p z.ws z.r = { z.r with pc := 3 } := by unfold qNext; rw [if_pos c0, if_pos he]
      refine .inl ⟨by rw [e1], by rw [e1], c0, hem, by unfold stepQ; rw [e1]; simp, by rw [e3]⟩
    · rw [decide_eq_false hem] at he
      have e1 : qDid p z.ws z.r = {} := by unfold qDid; rw [if_pos c0, if_neg (by rw [he]; simp)]
      rw [e1] at hd
      cases hd
  · by_cases c2 : z.r.pc = 2 ∧ z.r.left ≤ z.r.data.length
    · obtain ⟨l1, l2, l3⟩ := h.r2 h0 c2.1
      have hlen : z.r.data.length = (rmsg p.words z.got).length := by omega
      have e1 : qDid p z.ws z.r = { done := true, mark := true, data := z.r.data } := by unfold qDid; rw [if_neg c0, if_pos c2]
      have e3 : qNext p z.ws z.r = { z.r with pc := 3, own := nx32 z.r.own } := by unfold qNext; rw [if_neg c0, if_neg (by omega), if_pos c2.1, if_neg (by omega)]
      refine .inr ⟨by rw [e1], ?_, h.r1 h0 (by omega), c2.1, hlen, by unfold stepQ; rw [e1]; simp, by rw [e3]; show nx32 z.r.own = _; rw [nx32, o1]; omega⟩
      rw [e1]
      show z.r.data = _
      rw [l2, hlen, rmsg_len, rmsg]
    · have e1 : qDid p z.ws z.r = {} := by unfold qDid; rw [if_neg c0, if_neg c2]
      rw [e1] at hd
      cases hd
/-- What a send that ends tells. -/
theorem JR.told_s {p : Pl} {b : Int} {z : Rs} (h : JR p b z) (h0 : z.sOn = true) (hd : (sDid p z.ws z.s).done = true) :
    ((sDid p z.ws z.s).code = 2 ∧ (sDid p z.ws z.s).ring = false ∧ z.s.pc = 0 ∧ (z.sent : Int) - z.got = p.deep ∧ stepS p z = { z with s := sNext p z.ws z.s, sOn := false } ∧ (sNext p z.ws z.s).own = (b + z.n) % 4294967296) ∨
    ((sDid p z.ws z.s).code = 0 ∧ (sDid p z.ws z.s).ring = true ∧ z.s.pc = 3 + (rmsg p.words z.n).length ∧ z.sent = z.n + 1 ∧ stepS p z = { z with s := sNext p z.ws z.s, sOn := false, n := z.n + 1 } ∧ (sNext p z.ws z.s).own = (b + z.n + 1) % 4294967296) := by
  obtain ⟨d1, d2, d3⟩ := h.sd h0
  by_cases c0 : z.s.pc = 0
  · obtain ⟨a1, a2⟩ := h.sa h0 (by omega)
    have hf := h.full (by rw [a2, a1])
    have hm : sMem p z.ws z.s = z.ws := by
      unfold sMem
      rw [if_neg (by omega), if_neg (by omega), if_neg (by omega)]
    by_cases hfull : (z.sent : Int) - z.got = p.deep
    · rw [decide_eq_true hfull] at hf
      have e1 : sDid p z.ws z.s = { done := true, mark := true, code := 2 } := by unfold sDid; rw [if_pos c0, if_pos hf]
      have e3 : sNext p z.ws z.s = { z.s with pc := 4 + z.s.data.length } := by unfold sNext; rw [if_pos c0, if_pos hf]
      exact .inl ⟨by rw [e1], by rw [e1], c0, hfull, by unfold stepS; rw [hm, e1]; simp, by rw [e3]; exact a2⟩
    · rw [decide_eq_false hfull] at hf
      have e1 : sDid p z.ws z.s = {} := by unfold sDid; rw [if_pos c0, if_neg (by rw [hf]; simp)]
      rw [e1] at hd
      cases hd
  · by_cases c3 : z.s.pc = 2 + z.s.data.length
    · have e1 : sDid p z.ws z.s = { mark := true } := by unfold sDid; rw [if_neg c0, if_pos c3]
      rw [e1] at hd
      cases hd
    · by_cases c4 : z.s.pc = 3 + z.s.data.length
      · have e1 : sDid p z.ws z.s = { done := true, ring := true } := by unfold sDid; rw [if_neg c0, if_neg c3, if_pos c4]
        have em : sMem p z.ws z.s = z.ws := by unfold sMem; rw [if_neg (by omega), if_neg (by omega), if_neg c3]
        have e3 : sNext p z.ws z.s = { z.s with pc := z.s.pc + 1 } := by unfold sNext; rw [if_neg c0, if_neg c3, if_pos (by omega)]
        obtain ⟨b1, b2⟩ := h.sb h0 c4
        exact .inr ⟨by rw [e1], by rw [e1], by rw [c4, d1], b1.symm, by unfold stepS; rw [em, e1]; simp, by rw [e3]; exact b2⟩
      · have e1 : sDid p z.ws z.s = {} := by unfold sDid; rw [if_neg c0, if_neg c3, if_neg c4]
        rw [e1] at hd
        cases hd
end Go.Proofs.YtmidcnfmphlneaaGreat

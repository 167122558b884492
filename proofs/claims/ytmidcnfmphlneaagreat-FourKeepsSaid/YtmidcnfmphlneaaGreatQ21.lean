/- The four slots, plain: what holds between any two steps when the writer writes message after message: each read finds one whole, not an older one. Nothing of the program. -/
import Derived.Test.YtmidcnfmphlneaaGreatQ11
namespace Go.Proofs.YtmidcnfmphlneaaGreat
set_option linter.unusedVariables false
/-- Message n: its number, so often. -/
def msg (wd : Int) (n : Nat) : List Int := List.replicate (1 + n % wd.toNat) (n : Int)
theorem msg_len (wd : Int) (n : Nat) : (msg wd n).length = 1 + n % wd.toNat := by simp [msg]
theorem msg_le (wd : Int) (n : Nat) (h : 1 ≤ wd) : ((msg wd n).length : Int) ≤ wd := by
  rw [msg_len]
  have := Nat.mod_lt n (show 0 < wd.toNat by omega)
  omega
theorem msg_getD (wd : Int) (n i : Nat) (h : i < (msg wd n).length) : (msg wd n).getD i 0 = n := by
  rw [List.getD_eq_getElem?_getD, List.getElem?_eq_getElem h]
  simp [msg]
/-- A buffer has message m, or nothing (0). -/
def Holds (p : Plc) (ws : List Int) (x y : Int) (m : Nat) : Prop :=
  if m = 0 then ldW ws (p.buf x y) = 0 else ldW ws (p.buf x y) = (1 + m % p.words.toNat : Nat) ∧ ∀ j : Nat, j < 1 + m % p.words.toNat → ldW ws (p.buf x y + 2 + j) = m
/-- The newer buffer of a pair. -/
def cur (p : Plc) (ws : List Int) (x : Int) : Int := ldW ws (p.slot x) % 2
/-- The newer pair; the pair that is being read. -/
def latP (p : Plc) (ws : List Int) : Int := ldW ws p.src % 2
def redP (p : Plc) (ws : List Int) : Int := ldW ws p.rd % 2
structure Sg where
  (ws : List Int) (w : Wr) (r : Rdr) (n written marked begun first last steps own : Nat)
structure J (p : Plc) (s : Sg) (c : Int → Int → Nat) : Prop where
  ok : p.ok s.ws.length
  inv : Inv p s.ws s.w s.r
  dat : s.w.pc ≤ 6 → s.w.data = msg p.words s.n
  cnt : s.w.pc ≤ 3 → s.w.i = 0
  cnt4 : s.w.pc = 4 → s.w.i < s.w.data.length
  cnt5 : s.w.pc = 5 ∨ s.w.pc = 6 → s.w.i = s.w.data.length
  stp : s.w.pc ≤ 6 → s.steps = if s.w.pc ≤ 4 then s.w.pc + s.w.i else s.w.pc - 1 + s.w.data.length
  one : s.w.pc ≤ 6 → 1 ≤ s.n
  whole : ∀ x y, bit x → bit y → ¬ (3 ≤ s.w.pc ∧ s.w.pc ≤ 5 ∧ x = s.w.pair ∧ y = s.w.index) → Holds p s.ws x y (c x y)
  part : 3 ≤ s.w.pc → s.w.pc ≤ 5 → ldW s.ws (p.buf s.w.pair s.w.index) = s.w.data.length ∧ ∀ j : Nat, j < s.w.i → ldW s.ws (p.buf s.w.pair s.w.index + 2 + j) = s.n
  six : s.w.pc = 6 → c s.w.pair s.w.index = s.n ∧ cur p s.ws s.w.pair = s.w.index ∧ (s.w.marked = true → s.marked = s.n) ∧ s.w.marked = (latP p s.ws == s.w.pair)
  jM : c (latP p s.ws) (cur p s.ws (latP p s.ws)) = s.marked
  le1 : s.marked ≤ s.n
  le2 : s.written ≤ s.marked
  le3 : s.last ≤ s.marked
  idle : 7 ≤ s.w.pc → s.marked = s.n
  jA : s.r.pc = 1 → latP p s.ws ≠ s.r.pair → redP p s.ws = s.r.pair
  jC : 1 ≤ s.w.pc → s.w.pc ≤ 6 → s.r.pc = 1 → s.w.pair ≠ s.r.pair → redP p s.ws = s.r.pair
  jD : 1 ≤ s.w.pc → s.w.pc ≤ 6 → s.r.pc ≠ 1 → s.w.pair ≠ latP p s.ws → redP p s.ws = latP p s.ws
  jE : 1 ≤ s.w.pc → s.w.pc ≤ 6 → 1 ≤ s.r.pc → s.r.pc ≤ 5 → s.w.pair = s.r.pair → latP p s.ws = s.r.pair
  num : s.r.pc ≤ 5 → s.begun ≤ s.first ∧ s.last ≤ s.first ∧ s.first ≤ s.marked
  jG : 1 ≤ s.r.pc → s.r.pc ≤ 2 → s.first ≤ c s.r.pair (cur p s.ws s.r.pair) ∧ c s.r.pair (cur p s.ws s.r.pair) ≤ s.marked
  jH : 3 ≤ s.r.pc → s.r.pc ≤ 5 → s.first ≤ c s.r.pair s.r.index ∧ c s.r.pair s.r.index ≤ s.marked
  lft : 4 ≤ s.r.pc → s.r.pc ≤ 5 → c s.r.pair s.r.index ≠ 0 ∧ s.r.left = 1 + c s.r.pair s.r.index % p.words.toNat
  rd4 : s.r.pc ≤ 4 → s.r.data = []
  rd5 : s.r.pc = 5 → s.r.data = List.replicate s.r.data.length (c s.r.pair s.r.index : Int) ∧ s.r.data.length < s.r.left
  own : s.r.pc ≤ 5 → s.own = s.r.pc + s.r.data.length
theorem latP_bit (p : Plc) (ws : List Int) : bit (latP p ws) := bit_mod _
theorem redP_bit (p : Plc) (ws : List Int) : bit (redP p ws) := bit_mod _
theorem bit_other {x y z : Int} (hx : bit x) (hy : bit y) (hz : bit z) (h1 : x ≠ z) (h2 : y ≠ z) : x = y := by
  rcases hx with rfl | rfl <;> rcases hy with rfl | rfl <;> rcases hz with rfl | rfl <;> omega
/-- Buffers lie apart. -/
theorem buf_ne (p : Plc) (hw : 1 ≤ p.words) (x y x' y' : Int) (hx : bit x) (hy : bit y) (hx' : bit x') (hy' : bit y') (h : ¬ (x = x' ∧ y = y')) (i j : Int) (h0 : 0 ≤ i) (h1 : i < 2 + p.words) (h2 : 0 ≤ j) (h3 : j < 2 + p.words) : p.buf x y + i ≠ p.buf x' y' + j := by
  rcases hx with rfl | rfl <;> rcases hy with rfl | rfl <;> rcases hx' with rfl | rfl <;> rcases hy' with rfl | rfl <;> simp only [Plc.buf] <;> first | (exfalso; exact h ⟨rfl, rfl⟩) | omega
theorem mod_lt' (p : Plc) (hw : 1 ≤ p.words) (m : Nat) : ((1 + m % p.words.toNat : Nat) : Int) ≤ p.words := by
  have := Nat.mod_lt m (show 0 < p.words.toNat by omega)
  omega
/-- What a buffer has stays, whatever is stored outside of it. -/
theorem Holds.st {p : Plc} {ws : List Int} {x y : Int} {m : Nat} (h : Holds p ws x y m) (hw : 1 ≤ p.words) (a v : Int) (ha : 0 ≤ a) (hb : 0 ≤ p.buf x y) (hne : ∀ i : Int, 0 ≤ i → i < 2 + p.words → p.buf x y + i ≠ a) : Holds p (stW ws a v) x y m := by
  have hm := mod_lt' p hw m
  unfold Holds at h ⊢
  have h0 : ldW (stW ws a v) (p.buf x y) = ldW ws (p.buf x y) := ld_st ws a _ v ha hb (fun e => hne 0 (by omega) (by omega) (by omega))
  split
  · rename_i h1
    rw [if_pos h1] at h
    rw [h0]; exact h
  · rename_i h1
    rw [if_neg h1] at h
    refine ⟨by rw [h0]; exact h.1, fun j hj => ?_⟩
    rw [ld_st ws a _ v ha (by omega) (fun e => hne (2 + j) (by omega) (by omega) (by omega))]
    exact h.2 j hj
/-- A store that meets neither the words of control nor .. -/
theorem ctl_st {p : Plc} {ws : List Int} (ok : p.ok ws.length) (a v : Int) (ha : p.src + 3 ≤ a) (hb : a < p.rd) : latP p (stW ws a v) = latP p ws ∧ redP p (stW ws a v) = redP p ws ∧ ∀ x, bit x → cur p (stW ws a v) x = cur p ws x := by
  have hs := ok.src
  have hr := ok.rd
  have hw := ok.words
  refine ⟨?_, ?_, fun x hx => ?_⟩
  · rw [latP, latP, ld_st ws a _ v (by omega) (by omega) (by omega)]
  · rw [redP, redP, ld_st ws a _ v (by omega) (by omega) (by omega)]
  · have h1 := slot_at p x hx
    rw [cur, cur, ld_st ws a _ v (by omega) (by omega) (by omega)]
theorem ok_st {p : Plc} {ws : List Int} (ok : p.ok ws.length) (a v : Int) : p.ok (stW ws a v).length := by rw [stW, List.length_set]; exact ok

/-- A step of the writer. -/
def stepW (p : Plc) (now : Int) (s : Sg) : Sg :=
  { s with ws := wMem p s.ws now s.w, w := wNext p s.ws s.w, marked := if (wDid p s.ws s.w).mark = true then s.n else s.marked, steps := s.steps + 1, written := if (wDid p s.ws s.w).done = true then s.n else s.written }
/-- A new message. -/
def begW (p : Plc) (s : Sg) : Sg := { s with n := s.n + 1, w := wr0 (msg p.words (s.n + 1)), steps := 0 }
def begR (s : Sg) : Sg := { s with r := rdr0, begun := s.written, first := s.marked, own := 0 }
def stepR (p : Plc) (now : Int) (s : Sg) : Sg :=
  { s with ws := rMem p s.ws s.r, r := rNext p s.ws s.r, own := s.own + 1, last := if (rDid p s.ws now s.r).done = true ∧ (rDid p s.ws now s.r).code = 0 then ((rDid p s.ws now s.r).data.headD 0).toNat else s.last }

theorem J.begW {p : Plc} {s : Sg} {c : Int → Int → Nat} (h : J p s c) (hw : 7 ≤ s.w.pc) : J p (begW p s) c := by
  have hi := h.idle hw
  exact {
    ok := h.ok
    inv := ⟨.inl rfl, .inl rfl, h.inv.rp, h.inv.ri, h.inv.tell, fun c1 => absurd c1 (by simp [Go.Proofs.YtmidcnfmphlneaaGreat.begW, wr0]), fun c1 => absurd c1 (by simp [Go.Proofs.YtmidcnfmphlneaaGreat.begW, wr0])⟩
    dat := fun _ => rfl
    cnt := fun _ => rfl
    cnt4 := fun e => absurd e (by simp [Go.Proofs.YtmidcnfmphlneaaGreat.begW, wr0])
    cnt5 := fun e => absurd e (by simp [Go.Proofs.YtmidcnfmphlneaaGreat.begW, wr0])
    stp := fun _ => rfl
    one := fun _ => Nat.succ_le_succ (Nat.zero_le _)
    whole := fun x y hx hy _ => h.whole x y hx hy (by omega)
    part := fun e => absurd e (by simp [Go.Proofs.YtmidcnfmphlneaaGreat.begW, wr0])
    six := fun e => absurd e (by simp [Go.Proofs.YtmidcnfmphlneaaGreat.begW, wr0])
    jM := h.jM
    le1 := Nat.le_trans h.le1 (Nat.le_succ _)
    le2 := h.le2
    le3 := h.le3
    idle := fun e => absurd e (by simp [Go.Proofs.YtmidcnfmphlneaaGreat.begW, wr0])
    jA := h.jA
    jC := fun e => absurd e (by simp [Go.Proofs.YtmidcnfmphlneaaGreat.begW, wr0])
    jD := fun e => absurd e (by simp [Go.Proofs.YtmidcnfmphlneaaGreat.begW, wr0])
    jE := fun e => absurd e (by simp [Go.Proofs.YtmidcnfmphlneaaGreat.begW, wr0])
    num := h.num
    jG := h.jG
    jH := h.jH
    lft := h.lft
    rd4 := h.rd4
    rd5 := h.rd5
    own := h.own }
theorem J.begR {p : Plc} {s : Sg} {c : Int → Int → Nat} (h : J p s c) (hr : 6 ≤ s.r.pc) : J p (begR s) c :=
  { h with
    inv := ⟨h.inv.wp, h.inv.wi, .inl rfl, .inl rfl, fun c1 => absurd c1 (by simp [Go.Proofs.YtmidcnfmphlneaaGreat.begR, rdr0]), h.inv.slot, fun c1 c2 c3 => absurd c3 (by simp [Go.Proofs.YtmidcnfmphlneaaGreat.begR, rdr0])⟩
    jA := fun e => absurd e (by simp [Go.Proofs.YtmidcnfmphlneaaGreat.begR, rdr0])
    jC := fun _ _ e => absurd e (by simp [Go.Proofs.YtmidcnfmphlneaaGreat.begR, rdr0])
    jD := fun c1 c2 _ c4 => h.jD c1 c2 (by omega) c4
    jE := fun _ _ e => absurd e (by simp [Go.Proofs.YtmidcnfmphlneaaGreat.begR, rdr0])
    num := fun _ => ⟨h.le2, h.le3, Nat.le_refl _⟩
    jG := fun e => absurd e (by simp [Go.Proofs.YtmidcnfmphlneaaGreat.begR, rdr0])
    jH := fun e => absurd e (by simp [Go.Proofs.YtmidcnfmphlneaaGreat.begR, rdr0])
    lft := fun e => absurd e (by simp [Go.Proofs.YtmidcnfmphlneaaGreat.begR, rdr0])
    rd4 := fun _ => rfl
    rd5 := fun e => absurd e (by simp [Go.Proofs.YtmidcnfmphlneaaGreat.begR, rdr0])
    own := fun _ => rfl }

theorem or7 (n : Nat) (h : n ≤ 6) : n = 0 ∨ n = 1 ∨ n = 2 ∨ n = 3 ∨ n = 4 ∨ n = 5 ∨ n = 6 := by omega
theorem or6 (n : Nat) (h : n ≤ 5) : n = 0 ∨ n = 1 ∨ n = 2 ∨ n = 3 ∨ n = 4 ∨ n = 5 := by omega
theorem J.inv_w {p : Plc} {s : Sg} {c : Int → Int → Nat} (h : J p s c) (hw : s.w.pc ≤ 6) (now : Int) : Inv p (wMem p s.ws now s.w) (wNext p s.ws s.w) s.r :=
  h.inv.wstep now h.ok (by rw [h.dat hw]; exact msg_le _ _ h.ok.words) h.cnt4
/-- A writer's step that only loads: the choices. -/
theorem J.w0 {p : Plc} {s : Sg} {c : Int → Int → Nat} (now : Int) (h : J p s c) (h0 : s.w.pc = 0) : J p (stepW p now s) c := by
  have hinv := h.inv_w (by omega) now
  obtain ⟨ws, ⟨pc, data, pair, index, i, marked⟩, r, n, written, mk, begun, first, last, steps, own⟩ := s
  simp only at h0
  subst h0
  have hp := h.inv.rp
  have hL := latP_bit p ws
  have hR := redP_bit p ws
  exact {
    ok := h.ok, inv := hinv
    dat := fun _ => h.dat (by simp)
    cnt := fun _ => h.cnt (by simp)
    cnt4 := fun e => absurd e (by simp [stepW, wNext])
    cnt5 := fun e => absurd e (by simp [stepW, wNext])
    stp := fun _ => by
      have h1 := h.stp (by simp)
      simp only [stepW, wNext] at h1 ⊢
      simp only [h1]
      simp; omega
    one := fun _ => h.one (by simp)
    whole := fun x y hx hy _ => h.whole x y hx hy (by simp)
    part := fun e => absurd e (by simp [stepW, wNext])
    six := fun e => absurd e (by simp [stepW, wNext])
    jM := h.jM, le1 := h.le1, le2 := h.le2, le3 := h.le3
    idle := fun e => absurd e (by simp [stepW, wNext])
    jA := h.jA
    jC := fun _ _ e1 e2 => by
      have e3 : 1 - ldW ws p.rd % 2 ≠ r.pair := e2
      show ldW ws p.rd % 2 = r.pair
      rcases hp with e | e <;> rw [e] at e3 ⊢ <;> omega
    jD := fun _ _ e1 e2 => by
      have e3 : 1 - ldW ws p.rd % 2 ≠ latP p ws := e2
      show ldW ws p.rd % 2 = latP p ws
      rcases hL with e | e <;> rw [e] at e3 ⊢ <;> omega
    jE := fun _ _ e1 e2 e3 => by
      have e4 : 1 - ldW ws p.rd % 2 = r.pair := e3
      show latP p ws = r.pair
      rcases Nat.lt_or_ge 1 r.pc with e5 | e5
      · have e6 : ldW ws p.rd % 2 = r.pair := h.inv.tell e5 e2
        omega
      · apply Classical.byContradiction
        intro e6
        have e8 : 1 ≤ r.pc := e1
        have e7 : ldW ws p.rd % 2 = r.pair := h.jA (by show r.pc = 1; omega) e6
        omega
    num := h.num, jG := h.jG, jH := h.jH, lft := h.lft, rd4 := h.rd4, rd5 := h.rd5, own := h.own }
theorem J.w1 {p : Plc} {s : Sg} {c : Int → Int → Nat} (now : Int) (h : J p s c) (h0 : s.w.pc = 1) : J p (stepW p now s) c := by
  have hinv := h.inv_w (by omega) now
  obtain ⟨ws, ⟨pc, data, pair, index, i, marked⟩, r, n, written, mk, begun, first, last, steps, own⟩ := s
  simp only at h0
  subst h0
  exact {
    ok := h.ok, inv := hinv
    dat := fun _ => h.dat (by simp)
    cnt := fun _ => h.cnt (by simp)
    cnt4 := fun e => absurd e (by simp [stepW, wNext])
    cnt5 := fun e => absurd e (by simp [stepW, wNext])
    stp := fun _ => by
      have h1 := h.stp (by simp)
      simp only [stepW, wNext] at h1 ⊢
      simp only [h1]
      simp; omega
    one := fun _ => h.one (by simp)
    whole := fun x y hx hy _ => h.whole x y hx hy (by simp)
    part := fun e => absurd e (by simp [stepW, wNext])
    six := fun e => absurd e (by simp [stepW, wNext])
    jM := h.jM, le1 := h.le1, le2 := h.le2, le3 := h.le3
    idle := fun e => absurd e (by simp [stepW, wNext])
    jA := h.jA
    jC := fun _ _ => h.jC (by simp) (by simp)
    jD := fun _ _ => h.jD (by simp) (by simp)
    jE := fun _ _ => h.jE (by simp) (by simp)
    num := h.num, jG := h.jG, jH := h.jH, lft := h.lft, rd4 := h.rd4, rd5 := h.rd5, own := h.own }
/-- A store into the buffer that is being filled. -/
theorem J.wfill {p : Plc} {s : Sg} {c : Int → Int → Nat} (h : J p s c) (h1 : 2 ≤ s.w.pc) (h2 : s.w.pc ≤ 4) (w' : Wr) (a v : Int) (k : Int) (hk0 : 0 ≤ k) (hk : k < 2 + p.words) (ha : a = p.buf s.w.pair s.w.index + k) (steps' : Nat)
    (hpc : w'.pc = s.w.pc + 1 ∨ w'.pc = s.w.pc) (h3 : 3 ≤ w'.pc) (h5 : w'.pc ≤ 5) (e1 : w'.data = s.w.data) (e2 : w'.pair = s.w.pair) (e3 : w'.index = s.w.index) (hinv : Inv p (stW s.ws a v) w' s.r)
    (hc0 : w'.pc ≤ 3 → w'.i = 0) (hc4 : w'.pc = 4 → w'.i < w'.data.length) (hc5 : w'.pc = 5 → w'.i = w'.data.length) (hs : steps' = if w'.pc ≤ 4 then w'.pc + w'.i else w'.pc - 1 + w'.data.length)
    (hpart : ldW (stW s.ws a v) (p.buf s.w.pair s.w.index) = s.w.data.length ∧ ∀ j : Nat, j < w'.i → ldW (stW s.ws a v) (p.buf s.w.pair s.w.index + 2 + j) = s.n) : J p { s with ws := stW s.ws a v, w := w', steps := steps' } c := by
  have ok := h.ok
  have hsr := ok.src
  have hrd := ok.rd
  have hw := ok.words
  have hb := buf_at p s.w.pair s.w.index h.inv.wp h.inv.wi hw
  obtain ⟨c1, c2, c3⟩ := ctl_st ok a v (by omega) (by omega)
  have c4 := c3 _ h.inv.rp
  have c5 := c3 _ (latP_bit p s.ws)
  exact {
    ok := ok_st ok a v, inv := hinv
    dat := fun _ => e1.trans (h.dat (by omega))
    cnt := hc0, cnt4 := hc4
    cnt5 := fun e => hc5 (by rcases e with e | e; exact e; exact absurd e (by simp only; omega))
    stp := fun _ => hs
    one := fun _ => h.one (by omega)
    whole := fun x y hx hy hne => by
      have hne2 : ¬ (x = s.w.pair ∧ y = s.w.index) := fun e => hne ⟨h3, h5, by simp only [e2]; exact e.1, by simp only [e3]; exact e.2⟩
      have hb2 := buf_at p x y hx hy hw
      refine (h.whole x y hx hy fun e => hne2 e.2.2).st hw a v (by omega) (by omega) fun i i0 i1 => ?_
      rw [ha]
      exact buf_ne p hw x y s.w.pair s.w.index hx hy h.inv.wp h.inv.wi hne2 i k i0 i1 hk0 hk
    part := fun _ _ => by simp only [e1, e2, e3]; exact hpart
    six := fun e => absurd e (by simp only; omega)
    jM := by simp only [c1, c5]; exact h.jM
    le1 := h.le1, le2 := h.le2, le3 := h.le3
    idle := fun e => absurd e (by simp only; omega)
    jA := fun q1 q2 => by simp only [c1] at q2; simp only [c2]; exact h.jA q1 q2
    jC := fun _ _ q1 q2 => by simp only [e2] at q2; simp only [c2]; exact h.jC (by omega) (by omega) q1 q2
    jD := fun _ _ q1 q2 => by simp only [e2, c1] at q2; simp only [c1, c2]; exact h.jD (by omega) (by omega) q1 q2
    jE := fun _ _ q1 q2 q3 => by simp only [e2] at q3; simp only [c1]; exact h.jE (by omega) (by omega) q1 q2 q3
    num := h.num
    jG := fun q1 q2 => by simp only [c4]; exact h.jG q1 q2
    jH := h.jH, lft := h.lft, rd4 := h.rd4, rd5 := h.rd5, own := h.own }
theorem J.w2 {p : Plc} {s : Sg} {c : Int → Int → Nat} (now : Int) (h : J p s c) (h0 : s.w.pc = 2) : J p (stepW p now s) c := by
  have hinv := h.inv_w (by omega) now
  obtain ⟨ws, ⟨pc, data, pair, index, i, marked⟩, r, n, written, mk, begun, first, last, steps, own⟩ := s
  simp only at h0
  subst h0
  have hi := h.cnt (by simp)
  simp only at hi
  subst hi
  have hb := buf_at p pair index h.inv.wp h.inv.wi h.ok.words
  have hsr := h.ok.src
  have hl := h.ok.len
  have hrd := h.ok.rd
  refine h.wfill (by simp) (by simp) ⟨3, data, pair, index, 0, marked⟩ (p.buf pair index) data.length 0 (by omega) (by have := h.ok.words; omega) (by simp) (steps + 1) (.inl rfl) (by simp) (by simp) rfl rfl rfl hinv (fun _ => rfl) (fun e => absurd e (by simp)) (fun e => absurd e (by simp)) ?_ ⟨?_, fun j hj => absurd hj (by simp)⟩
  · have h1 := h.stp (by simp)
    simp only at h1
    rw [h1]; rfl
  · exact ldW_same _ _ _ (by simp only at hl hb hsr ⊢; omega)
theorem J.w3 {p : Plc} {s : Sg} {c : Int → Int → Nat} (now : Int) (h : J p s c) (h0 : s.w.pc = 3) : J p (stepW p now s) c := by
  have hinv := h.inv_w (by omega) now
  obtain ⟨ws, ⟨pc, data, pair, index, i, marked⟩, r, n, written, mk, begun, first, last, steps, own⟩ := s
  simp only at h0
  subst h0
  have hi := h.cnt (by simp)
  simp only at hi
  subst hi
  have hb := buf_at p pair index h.inv.wp h.inv.wi h.ok.words
  have hsr := h.ok.src
  have hd : data = msg p.words n := h.dat (by simp)
  have hpt := (h.part (by simp) (by simp)).1
  try simp only at hb
  try simp only at hsr
  refine h.wfill (by simp) (by simp) ⟨4, data, pair, index, 0, marked⟩ (p.buf pair index + 1) (now % 4294967296) 1 (by omega) (by have := h.ok.words; omega) rfl (steps + 1) (.inl rfl) (by simp) (by simp) rfl rfl rfl hinv (fun e => absurd e (by simp)) (fun _ => by simp only [hd, msg_len]; omega) (fun e => absurd e (by simp)) ?_ ⟨?_, fun j hj => absurd hj (by simp)⟩
  · have h1 := h.stp (by simp)
    simp only at h1
    rw [h1]; rfl
  · show ldW (stW ws (p.buf pair index + 1) (now % 4294967296)) (p.buf pair index) = (data.length : Int)
    rw [ld_st _ _ _ _ (by omega) (by omega) (by omega)]
    exact hpt
theorem J.w4 {p : Plc} {s : Sg} {c : Int → Int → Nat} (now : Int) (h : J p s c) (h0 : s.w.pc = 4) : J p (stepW p now s) c := by
  have hinv := h.inv_w (by omega) now
  obtain ⟨ws, ⟨pc, data, pair, index, i, marked⟩, r, n, written, mk, begun, first, last, steps, own⟩ := s
  simp only at h0
  subst h0
  have hi : i < data.length := h.cnt4 rfl
  have hb := buf_at p pair index h.inv.wp h.inv.wi h.ok.words
  have hsr := h.ok.src
  have hl := h.ok.len
  have hrd := h.ok.rd
  have hd : data = msg p.words n := h.dat (by simp)
  have hle := msg_le p.words n h.ok.words
  rw [← hd] at hle
  obtain ⟨hp1, hp2⟩ := h.part (by simp) (by simp)
  try simp only at hb
  try simp only at hsr
  try simp only at hl
  try simp only at hrd
  try simp only at hp1
  try simp only at hp2
  have hv : data.getD i 0 = (n : Int) := by rw [hd] at hi ⊢; exact msg_getD _ _ _ hi
  have h1 := h.stp (by simp)
  simp only at h1
  have hst : wMem p ws now ⟨4, data, pair, index, i, marked⟩ = stW ws (p.buf pair index + 2 + i) (data.getD i 0) := rfl
  have hnx : wNext p ws ⟨4, data, pair, index, i, marked⟩ = ⟨if i + 1 < data.length then 4 else 5, data, pair, index, i + 1, marked⟩ := rfl
  have hgo : J p { ws := stW ws (p.buf pair index + 2 + i) (data.getD i 0), w := ⟨if i + 1 < data.length then 4 else 5, data, pair, index, i + 1, marked⟩, r := r, n := n, written := written, marked := mk, begun := begun, first := first, last := last, steps := steps + 1, own := own } c := by
    refine h.wfill (by simp) (by simp) ⟨if i + 1 < data.length then 4 else 5, data, pair, index, i + 1, marked⟩ (p.buf pair index + 2 + i) (data.getD i 0) (2 + i) (by omega) (by omega) (by simp only; omega) (steps + 1) (by simp only; split <;> simp) (by simp only; split <;> simp) (by simp only; split <;> simp) rfl rfl rfl (by rw [hst, hnx] at hinv; exact hinv) ?_ ?_ ?_ ?_ ⟨?_, fun j hj => ?_⟩
    · intro e; exact absurd e (by simp only; split <;> simp)
    · intro e
      try simp only at e
      try simp only
      split at e
      · assumption
      · exact absurd e (by simp)
    · intro e
      try simp only at e
      try simp only
      split at e
      · exact absurd e (by simp)
      · omega
    · rw [h1]
      show _ = if (if i + 1 < data.length then 4 else 5) ≤ 4 then (if i + 1 < data.length then 4 else 5) + (i + 1) else (if i + 1 < data.length then 4 else 5) - 1 + data.length
      by_cases hq : i + 1 < data.length
      · first | (simp [hq]; done) | (simp [hq]; omega)
      · have hq2 : i + 1 = data.length := by omega
        first | (simp [hq]; done) | (simp [hq]; omega)
    · show ldW (stW ws (p.buf pair index + 2 + (i : Int)) (data.getD i 0)) (p.buf pair index) = (data.length : Int)
      rw [ld_st _ _ _ _ (by omega) (by omega) (by omega)]
      exact hp1
    · have hj2 : j < i + 1 := hj
      show ldW (stW ws (p.buf pair index + 2 + (i : Int)) (data.getD i 0)) (p.buf pair index + 2 + (j : Int)) = (n : Int)
      by_cases hq : j = i
      · subst hq
        rw [ldW_same _ _ _ (by omega)]
        exact hv
      · rw [ld_st _ _ _ _ (by omega) (by omega) (by omega)]
        exact hp2 j (by omega)
  exact hgo

theorem J.w5 {p : Plc} {s : Sg} {c : Int → Int → Nat} (now : Int) (h : J p s c) (h0 : s.w.pc = 5) : J p (stepW p now s) (fun x y => if x = s.w.pair ∧ y = s.w.index then s.n else c x y) := by
  have hinv := h.inv_w (by omega) now
  obtain ⟨ws, ⟨pc, data, pair, index, i, marked⟩, r, n, written, mk, begun, first, last, steps, own⟩ := s
  simp only at h0
  subst h0
  have ok := h.ok
  have hsr : 0 ≤ p.src := ok.src
  have hw := ok.words
  have hrd : p.src + 3 + 4 * (2 + p.words) ≤ p.rd := ok.rd
  have hl : p.rd < (ws.length : Int) := ok.len
  have wp : bit pair := h.inv.wp
  have wi : bit index := h.inv.wi
  have rp : bit r.pair := h.inv.rp
  have hs := slot_at p pair wp
  have h1 := h.stp (by simp)
  have hi : i = data.length := h.cnt5 (.inl rfl)
  have hd : data = msg p.words n := h.dat (by simp)
  have hpt := h.part (by simp) (by simp)
  have hn1 : 1 ≤ n := h.one (by simp)
  have le1 : mk ≤ n := h.le1
  have c1 : latP p (stW ws (p.slot pair) index) = latP p ws := by rw [latP, latP, ld_st _ _ _ _ (by omega) (by omega) (by omega)]
  have c2 : redP p (stW ws (p.slot pair) index) = redP p ws := by rw [redP, redP, ld_st _ _ _ _ (by omega) (by omega) (by omega)]
  have c3 : ∀ x, bit x → x ≠ pair → cur p (stW ws (p.slot pair) index) x = cur p ws x := fun x hx hne => by
    have hs2 := slot_at p x hx
    rw [cur, cur, ld_st _ _ _ _ (by omega) (by omega) (by simp only [Plc.slot]; omega)]
  have c4 : cur p (stW ws (p.slot pair) index) pair = index := by
    rw [cur, ldW_same _ _ _ (by omega)]
    exact bit_self wi
  have hap : ∀ x y, ¬ (x = pair ∧ y = index) → (if x = pair ∧ y = index then n else c x y) = c x y := fun x y hn => if_neg hn
  -- what is marked behind the step
  obtain ⟨mk', hmk'⟩ : ∃ mk', (if (wDid p ws ⟨5, data, pair, index, i, marked⟩).mark = true then n else mk) = mk' := ⟨_, rfl⟩
  have hmk1 : latP p ws = pair → mk' = n := fun e => by
    rw [← hmk']
    have e2 : (wDid p ws ⟨5, data, pair, index, i, marked⟩).mark = true := by show (latP p ws == pair) = true; rw [e]; simp
    rw [if_pos e2]
  have hmk2 : latP p ws ≠ pair → mk' = mk := fun e => by
    rw [← hmk']
    have e2 : ¬ (wDid p ws ⟨5, data, pair, index, i, marked⟩).mark = true := by show ¬ (latP p ws == pair) = true; simpa using e
    rw [if_neg e2]
  have hmk3 : mk ≤ mk' ∧ mk' ≤ n := by
    by_cases e : latP p ws = pair
    · rw [hmk1 e]; exact ⟨le1, Nat.le_refl _⟩
    · rw [hmk2 e]; exact ⟨Nat.le_refl _, le1⟩
  have hap2 : 3 ≤ r.pc → r.pc ≤ 5 → ¬ (r.pair = pair ∧ r.index = index) := fun e1 e2 e3 => h.inv.apart (by simp) (by simp) e1 e2 ⟨e3.1.symm, e3.2.symm⟩
  have hgo : J p { ws := stW ws (p.slot pair) index, w := ⟨6, data, pair, index, i, ldW ws p.src % 2 == pair⟩, r := r, n := n, written := written, marked := mk', begun := begun, first := first, last := last, steps := steps + 1, own := own } (fun x y => if x = pair ∧ y = index then n else c x y) := {
    ok := ok_st ok _ _, inv := hinv
    dat := fun _ => hd
    cnt := fun e => absurd e (by simp)
    cnt4 := fun e => absurd e (by simp)
    cnt5 := fun _ => hi
    stp := fun _ => by
      simp only at h1 ⊢
      rw [h1]
      simp; omega
    one := fun _ => hn1
    whole := fun x y hx hy _ => by
      simp only
      by_cases e : x = pair ∧ y = index
      · rw [if_pos e]
        obtain ⟨rfl, rfl⟩ := e
        have hb := buf_at p x y hx hy hw
        have hln : data.length = 1 + n % p.words.toNat := by rw [hd, msg_len]
        have hm := mod_lt' p hw n
        refine Holds.st ?_ hw _ _ (by omega) (by omega) fun k k0 k1 => by omega
        unfold Holds
        rw [if_neg (by omega)]
        have q1 := hpt.1
        have q2 := hpt.2
        simp only at q1 q2
        refine ⟨by rw [q1, hln], fun j hj => q2 j (by show j < i; omega)⟩
      · rw [if_neg e]
        have hb := buf_at p x y hx hy hw
        exact (h.whole x y hx hy fun e2 => e e2.2.2).st hw _ _ (by omega) (by omega) fun k k0 k1 => by omega
    part := fun _ e => absurd e (by simp)
    six := fun _ => ⟨if_pos ⟨rfl, rfl⟩, c4, fun e => hmk1 (by simpa [latP] using e), by simp only [c1]; rfl⟩
    jM := by
      simp only [c1]
      by_cases e : latP p ws = pair
      · rw [e, c4, if_pos ⟨rfl, rfl⟩, hmk1 e]
      · rw [c3 _ (latP_bit _ _) e, if_neg fun q => e q.1, hmk2 e]
        exact h.jM
    le1 := hmk3.2
    le2 := Nat.le_trans h.le2 hmk3.1
    le3 := Nat.le_trans h.le3 hmk3.1
    idle := fun e => absurd e (by simp)
    jA := fun q1 q2 => by simp only [c1] at q2; simp only [c2]; exact h.jA q1 q2
    jC := fun _ _ q1 q2 => by simp only [c2]; exact h.jC (by simp) (by simp) q1 q2
    jD := fun _ _ q1 q2 => by simp only [c1] at q2; simp only [c1, c2]; exact h.jD (by simp) (by simp) q1 q2
    jE := fun _ _ q1 q2 q3 => by simp only [c1]; exact h.jE (by simp) (by simp) q1 q2 q3
    num := fun e => ⟨(h.num e).1, (h.num e).2.1, Nat.le_trans (h.num e).2.2 hmk3.1⟩
    jG := fun q1 q2 => by
      simp only
      have q2' : r.pc ≤ 2 := q2
      have hn := (h.num (by show r.pc ≤ 5; omega)).2.2
      by_cases e : r.pair = pair
      · have e2 : latP p ws = r.pair := h.jE (by simp) (by simp) q1 (by show r.pc ≤ 5; omega) e.symm
        have e3 := hmk1 (e2.trans e)
        rw [e, c4, if_pos ⟨rfl, rfl⟩, e3]
        exact ⟨Nat.le_trans hn le1, Nat.le_refl _⟩
      · rw [c3 _ rp e, if_neg fun q => e q.1]
        exact ⟨(h.jG q1 q2).1, Nat.le_trans (h.jG q1 q2).2 hmk3.1⟩
    jH := fun q1 q2 => by
      simp only
      rw [if_neg (hap2 q1 q2)]
      exact ⟨(h.jH q1 q2).1, Nat.le_trans (h.jH q1 q2).2 hmk3.1⟩
    lft := fun q1 q2 => by
      simp only
      rw [if_neg (hap2 (Nat.le_trans (by omega) q1) q2)]
      exact h.lft q1 q2
    rd4 := h.rd4
    rd5 := fun q => by
      have q' : r.pc = 5 := q
      simp only
      rw [if_neg (hap2 (by omega) (by omega))]
      exact h.rd5 q
    own := h.own }
  rw [← hmk'] at hgo
  exact hgo
theorem J.w6 {p : Plc} {s : Sg} {c : Int → Int → Nat} (now : Int) (h : J p s c) (h0 : s.w.pc = 6) : J p (stepW p now s) c := by
  have hinv := h.inv_w (by omega) now
  obtain ⟨ws, ⟨pc, data, pair, index, i, marked⟩, r, n, written, mk, begun, first, last, steps, own⟩ := s
  simp only at h0
  subst h0
  have ok := h.ok
  have hsr : 0 ≤ p.src := ok.src
  have hw := ok.words
  have hrd : p.src + 3 + 4 * (2 + p.words) ≤ p.rd := ok.rd
  have hl : p.rd < (ws.length : Int) := ok.len
  have wp : bit pair := h.inv.wp
  have rp : bit r.pair := h.inv.rp
  obtain ⟨s1, s2, s3, s4⟩ := h.six rfl
  have le1 : mk ≤ n := h.le1
  have c1 : latP p (stW ws p.src pair) = pair := by rw [latP, ldW_same _ _ _ (by omega)]; exact bit_self wp
  have c2 : redP p (stW ws p.src pair) = redP p ws := by rw [redP, redP, ld_st _ _ _ _ (by omega) (by omega) (by omega)]
  have c3 : ∀ x, bit x → cur p (stW ws p.src pair) x = cur p ws x := fun x hx => by
    have hs2 := slot_at p x hx
    rw [cur, cur, ld_st _ _ _ _ (by omega) (by omega) (by omega)]
  have hmk : (if (wDid p ws ⟨6, data, pair, index, i, marked⟩).mark = true then n else mk) = n := by
    cases hq : marked with
    | false => exact if_pos rfl
    | true => exact (if_neg (show ¬ ((!true) = true) by simp)).trans (s3 hq)
  have hgo : J p { ws := stW ws p.src pair, w := ⟨7, data, pair, index, i, marked⟩, r := r, n := n, written := n, marked := n, begun := begun, first := first, last := last, steps := steps + 1, own := own } c := {
    ok := ok_st ok _ _, inv := hinv
    dat := fun e => absurd e (by simp)
    cnt := fun e => absurd e (by simp)
    cnt4 := fun e => absurd e (by simp)
    cnt5 := fun e => absurd e (by simp)
    stp := fun e => absurd e (by simp)
    one := fun e => absurd e (by simp)
    whole := fun x y hx hy _ => by
      have hb := buf_at p x y hx hy hw
      exact (h.whole x y hx hy (by simp)).st hw _ _ (by omega) (by omega) fun k k0 k1 => by omega
    part := fun _ e => absurd e (by simp)
    six := fun e => absurd e (by simp)
    jM := by
      simp only [c1, c3 _ wp]
      rw [s2]
      exact s1
    le1 := Nat.le_refl _
    le2 := Nat.le_refl _
    le3 := Nat.le_trans h.le3 le1
    idle := fun _ => rfl
    jA := fun q1 q2 => by
      simp only [c1] at q2
      simp only [c2]
      exact h.jC (by simp) (by simp) q1 q2
    jC := fun _ e => absurd e (by simp)
    jD := fun _ e => absurd e (by simp)
    jE := fun _ e => absurd e (by simp)
    num := fun e => ⟨(h.num e).1, (h.num e).2.1, Nat.le_trans (h.num e).2.2 le1⟩
    jG := fun q1 q2 => by
      simp only [c3 _ rp]
      exact ⟨(h.jG q1 q2).1, Nat.le_trans (h.jG q1 q2).2 le1⟩
    jH := fun q1 q2 => ⟨(h.jH q1 q2).1, Nat.le_trans (h.jH q1 q2).2 le1⟩
    lft := h.lft, rd4 := h.rd4, rd5 := h.rd5, own := h.own }
  show J p { ws := stW ws p.src pair, w := ⟨7, data, pair, index, i, marked⟩, r := r, n := n, written := n, marked := (if (wDid p ws ⟨6, data, pair, index, i, marked⟩).mark = true then n else mk), begun := begun, first := first, last := last, steps := steps + 1, own := own } c
  rw [hmk]
  exact hgo

theorem J.w {p : Plc} {s : Sg} {c : Int → Int → Nat} (now : Int) (h : J p s c) (h0 : s.w.pc ≤ 6) : ∃ c', J p (stepW p now s) c' := by
  rcases or7 _ h0 with e | e | e | e | e | e | e
  · exact ⟨c, h.w0 now e⟩
  · exact ⟨c, h.w1 now e⟩
  · exact ⟨c, h.w2 now e⟩
  · exact ⟨c, h.w3 now e⟩
  · exact ⟨c, h.w4 now e⟩
  · exact ⟨_, h.w5 now e⟩
  · exact ⟨c, h.w6 now e⟩
/-- What the write's step tells. -/
theorem J.told_w {p : Plc} {s : Sg} {c : Int → Int → Nat} (now : Int) (hw16 : p.words ≤ 16) (h : J p s c) (h0 : s.w.pc ≤ 6) :
    (wDid p s.ws s.w).code = 0 ∧ ((wDid p s.ws s.w).done = false → (stepW p now s).w.pc ≤ 6 ∧ (stepW p now s).steps < 40) ∧
    ((wDid p s.ws s.w).done = true → (stepW p now s).w.pc = 7 ∧ ((stepW p now s).steps : Int) = 1 + (s.n : Int) % p.words + 6 ∧ (stepW p now s).marked = s.n) := by
  have hw := h.ok.words
  have hst := h.stp h0
  have hd := h.dat h0
  have hln : s.w.data.length = 1 + s.n % p.words.toNat := by rw [hd, msg_len]
  have hm := mod_lt' p hw s.n
  have hcast : ((s.n % p.words.toNat : Nat) : Int) = (s.n : Int) % p.words := by
    rw [Int.natCast_emod]
    congr 1
    omega
  have c0 := h.cnt
  have c4 := h.cnt4
  have c6 := h.six
  have hle := h.le1
  obtain ⟨ws, ⟨pc, data, pair, index, i, marked⟩, r, n, written, mk, begun, first, last, steps, own⟩ := s
  simp only at h0 hst hln hm hcast c0 c4 c6 hle
  rcases or7 _ h0 with e | e | e | e | e | e | e <;> subst e <;> simp only [Nat.reduceLeDiff, if_true, if_false, Nat.zero_add] at hst
  · exact ⟨rfl, fun _ => ⟨by show 1 ≤ 6; omega, by have := c0 (by omega); show steps + 1 < 40; omega⟩, fun e => absurd e (by simp [wDid])⟩
  · exact ⟨rfl, fun _ => ⟨by show 2 ≤ 6; omega, by have := c0 (by omega); show steps + 1 < 40; omega⟩, fun e => absurd e (by simp [wDid])⟩
  · exact ⟨rfl, fun _ => ⟨by show 3 ≤ 6; omega, by have := c0 (by omega); show steps + 1 < 40; omega⟩, fun e => absurd e (by simp [wDid])⟩
  · exact ⟨rfl, fun _ => ⟨by show 4 ≤ 6; omega, by have := c0 (by omega); show steps + 1 < 40; omega⟩, fun e => absurd e (by simp [wDid])⟩
  · exact ⟨rfl, fun _ => ⟨by show (if i + 1 < data.length then 4 else 5) ≤ 6; split <;> omega, by have := c4 rfl; show steps + 1 < 40; omega⟩, fun e => absurd e (by simp [wDid])⟩
  · exact ⟨rfl, fun _ => ⟨by show 6 ≤ 6; omega, by show steps + 1 < 40; omega⟩, fun e => absurd e (by simp [wDid])⟩
  · refine ⟨rfl, fun e => absurd e (by simp [wDid]), fun _ => ⟨rfl, ?_, ?_⟩⟩
    · show ((steps + 1 : Nat) : Int) = 1 + (n : Int) % p.words + 6
      omega
    · obtain ⟨s1, s2, s3, s4⟩ := c6 rfl
      show (if (wDid p ws ⟨6, data, pair, index, i, marked⟩).mark = true then n else mk) = n
      cases hq : marked with
      | false => exact if_pos rfl
      | true => exact (if_neg (show ¬ ((!true) = true) by simp)).trans (s3 hq)
/-- A reader's step that stores nothing. -/
theorem J.rkeep {p : Plc} {s : Sg} {c : Int → Int → Nat} (h : J p s c) (r' : Rdr) (own' last' : Nat) (hinv : Inv p s.ws s.w r') (hp : r'.pair = s.r.pair) (h1 : 2 ≤ s.r.pc) (h2 : 2 ≤ r'.pc) (hl : last' ≤ s.marked) (hnum : r'.pc ≤ 5 → s.r.pc ≤ 5 ∧ last' = s.last)
    (hG : r'.pc ≤ 2 → s.r.pc ≤ 2) (hH : 3 ≤ r'.pc → r'.pc ≤ 5 → s.first ≤ c r'.pair r'.index ∧ c r'.pair r'.index ≤ s.marked) (hlft : 4 ≤ r'.pc → r'.pc ≤ 5 → c r'.pair r'.index ≠ 0 ∧ r'.left = 1 + c r'.pair r'.index % p.words.toNat)
    (h4 : r'.pc ≤ 4 → r'.data = []) (h5 : r'.pc = 5 → r'.data = List.replicate r'.data.length (c r'.pair r'.index : Int) ∧ r'.data.length < r'.left) (ho : r'.pc ≤ 5 → own' = r'.pc + r'.data.length) : J p { s with r := r', own := own', last := last' } c :=
  { ok := h.ok, inv := hinv, dat := h.dat, cnt := h.cnt, cnt4 := h.cnt4, cnt5 := h.cnt5, stp := h.stp, one := h.one, whole := h.whole, part := h.part, six := h.six, jM := h.jM, le1 := h.le1, le2 := h.le2, le3 := hl, idle := h.idle
    jA := fun e => absurd e (by show r'.pc ≠ 1; omega)
    jC := fun _ _ e => absurd e (by show r'.pc ≠ 1; omega)
    jD := fun q1 q2 _ q4 => h.jD q1 q2 (by omega) q4
    jE := fun q1 q2 _ q4 q5 => by rw [show (r'.pair) = s.r.pair from hp] at q5 ⊢; exact h.jE q1 q2 (by omega) (hnum q4).1 q5
    num := fun q => ⟨(h.num (hnum q).1).1, by rw [show last' = s.last from (hnum q).2]; exact (h.num (hnum q).1).2.1, (h.num (hnum q).1).2.2⟩
    jG := fun _ q2 => by
      show s.first ≤ c r'.pair (cur p s.ws r'.pair) ∧ _
      rw [hp]; exact h.jG (by omega) (hG q2)
    jH := hH, lft := hlft, rd4 := h4, rd5 := h5, own := ho }
theorem J.r {p : Plc} {s : Sg} {c : Int → Int → Nat} (now : Int) (h : J p s c) (h0 : s.r.pc ≤ 5) : J p (stepR p now s) c := by
  have hinv := h.inv.rstep h.ok
  have hw := h.ok.words
  have hH := h.jH
  have hG := h.jG
  have hN := h.num h0
  have hL := h.lft
  have h4 := h.rd4
  have h5 := h.rd5
  have hO := h.own h0
  have hwh := h.whole
  have hap := h.inv.apart
  have hri := h.inv.ri
  have hrp := h.inv.rp
  have hle3 := h.le3
  obtain ⟨ws, w, ⟨pc, pair, index, left, stamp, data⟩, n, written, mk, begun, first, last, steps, own⟩ := s
  simp only at h0 hH hG hN hL h4 h5 hO hwh hap hri hrp hle3
  rcases or6 _ h0 with e | e | e | e | e | e <;> subst e
  · -- latest
    exact {
      ok := h.ok, inv := hinv, dat := h.dat, cnt := h.cnt, cnt4 := h.cnt4, cnt5 := h.cnt5, stp := h.stp, one := h.one, whole := h.whole, part := h.part, six := h.six, jM := h.jM, le1 := h.le1, le2 := h.le2, le3 := h.le3, idle := h.idle
      jA := fun _ e => absurd rfl e
      jC := fun q1 q2 _ q4 => h.jD q1 q2 (by simp) q4
      jD := fun _ _ e => absurd rfl e
      jE := fun _ _ _ _ _ => rfl
      num := fun _ => hN
      jG := fun _ _ => by
        have e := h.jM
        simp only at e
        show first ≤ c (latP p ws) (cur p ws (latP p ws)) ∧ c (latP p ws) (cur p ws (latP p ws)) ≤ mk
        rw [e]
        exact ⟨hN.2.2, Nat.le_refl _⟩
      jH := fun e => absurd e (by simp [stepR, rNext])
      lft := fun e => absurd e (by simp [stepR, rNext])
      rd4 := fun _ => h4 (by simp)
      rd5 := fun e => absurd e (by simp [stepR, rNext])
      own := fun _ => by
        show own + 1 = 1 + data.length
        omega }
  · -- tell
    have hsr : 0 ≤ p.src := h.ok.src
    have hrd : p.src + 3 + 4 * (2 + p.words) ≤ p.rd := h.ok.rd
    have hl : p.rd < (ws.length : Int) := h.ok.len
    have c1 : latP p (stW ws p.rd pair) = latP p ws := by rw [latP, latP, ld_st _ _ _ _ (by omega) (by omega) (by omega)]
    have c2 : redP p (stW ws p.rd pair) = pair := by rw [redP, ldW_same _ _ _ (by omega)]; exact bit_self hrp
    have c3 : ∀ x, bit x → cur p (stW ws p.rd pair) x = cur p ws x := fun x hx => by
      have hs2 := slot_at p x hx
      rw [cur, cur, ld_st _ _ _ _ (by omega) (by omega) (by omega)]
    exact {
      ok := ok_st h.ok _ _, inv := hinv, dat := h.dat, cnt := h.cnt, cnt4 := h.cnt4, cnt5 := h.cnt5, stp := h.stp, one := h.one
      whole := fun x y hx hy hne => by
        have hb := buf_at p x y hx hy hw
        exact (h.whole x y hx hy hne).st hw _ _ (by show 0 ≤ p.rd; omega) (by omega) fun k k0 k1 => by show _ ≠ p.rd; omega
      part := fun q1 q2 => by
        have q3 := h.part q1 q2
        have hb := buf_at p w.pair w.index h.inv.wp h.inv.wi hw
        have hdl : (w.data.length : Int) ≤ p.words := by rw [show w.data = _ from h.dat (by show w.pc ≤ 6; have q2' : w.pc ≤ 5 := q2; omega)]; exact msg_le _ _ hw
        have hil : w.i ≤ w.data.length := by
          have e1 : w.pc = 3 ∨ w.pc = 4 ∨ w.pc = 5 := by have q1' : 3 ≤ w.pc := q1; have q2' : w.pc ≤ 5 := q2; omega
          rcases e1 with e | e | e
          · have := h.cnt (by show w.pc ≤ 3; omega); have e2 : w.i = 0 := this; omega
          · exact Nat.le_of_lt (h.cnt4 e)
          · exact Nat.le_of_eq (h.cnt5 (.inl e))
        refine ⟨?_, fun j hj => ?_⟩
        · show ldW (stW ws p.rd pair) (p.buf w.pair w.index) = _
          rw [ld_st _ _ _ _ (by omega) (by omega) (by omega)]
          exact q3.1
        · have hj' : j < w.i := hj
          show ldW (stW ws p.rd pair) (p.buf w.pair w.index + 2 + j) = _
          rw [ld_st _ _ _ _ (by omega) (by omega) (by omega)]
          exact q3.2 j hj
      six := fun q => by
        have q3 := h.six q
        exact ⟨q3.1, (c3 _ h.inv.wp).trans q3.2.1, q3.2.2.1, q3.2.2.2.trans (by show (latP p ws == w.pair) = (latP p (stW ws p.rd pair) == w.pair); rw [c1])⟩
      jM := by
        show c (latP p (stW ws p.rd pair)) (cur p (stW ws p.rd pair) (latP p (stW ws p.rd pair))) = mk
        rw [c1, c3 _ (latP_bit _ _)]
        exact h.jM
      le1 := h.le1, le2 := h.le2, le3 := h.le3, idle := h.idle
      jA := fun e => absurd e (by simp [stepR, rNext])
      jC := fun _ _ e => absurd e (by simp [stepR, rNext])
      jD := fun q1 q2 _ q4 => by
        have q4' : w.pair ≠ latP p ws := fun e => q4 (e.trans c1.symm)
        show redP p (stW ws p.rd pair) = latP p (stW ws p.rd pair)
        rw [c1, c2]
        apply Classical.byContradiction
        intro e
        have e2 : w.pair = pair := bit_other h.inv.wp hrp (latP_bit p ws) q4' e
        exact e (h.jE q1 q2 (by simp) (by simp) e2).symm
      jE := fun q1 q2 _ _ q5 => by
        show latP p (stW ws p.rd pair) = pair
        rw [c1]
        exact h.jE q1 q2 (by simp) (by simp) q5
      num := fun _ => hN
      jG := fun _ _ => by
        show first ≤ c pair (cur p (stW ws p.rd pair) pair) ∧ c pair (cur p (stW ws p.rd pair) pair) ≤ mk
        rw [c3 _ hrp]
        exact h.jG (by simp) (by simp)
      jH := fun e => absurd e (by simp [stepR, rNext])
      lft := fun e => absurd e (by simp [stepR, rNext])
      rd4 := fun _ => h4 (by simp)
      rd5 := fun e => absurd e (by simp [stepR, rNext])
      own := fun _ => by
        show own + 1 = 2 + data.length
        omega }
  · -- newer
    exact h.rkeep ⟨3, pair, ldW ws (p.slot pair) % 2, left, stamp, data⟩ (own + 1) last hinv rfl (by simp) (by simp) h.le3 (fun _ => ⟨by simp, rfl⟩) (fun e => absurd e (by simp)) (fun _ _ => hG (by simp) (by simp)) (fun e => absurd e (by simp)) (fun _ => h4 (by simp)) (fun e => absurd e (by simp)) (fun _ => by show own + 1 = 3 + data.length; omega)
  · -- length
    have hwhole : Holds p ws pair index (c pair index) := hwh pair index hrp hri fun e => hap (by omega) e.2.1 (by simp) (by simp) ⟨e.2.2.1.symm, e.2.2.2.symm⟩
    have hHH := hH (by simp) (by simp)
    have hd0 := h4 (by simp)
    unfold Holds at hwhole
    by_cases hz : ldW ws (p.buf pair index) = 0
    · have e1 : rNext p ws ⟨3, pair, index, left, stamp, data⟩ = ⟨6, pair, index, left, stamp, data⟩ := by simp only [rNext, if_pos hz]
      have e2 : rDid p ws now ⟨3, pair, index, left, stamp, data⟩ = { done := true, code := 1, buffer := 1 + (2 * pair + index) } := by simp only [rDid, if_pos hz]
      have hgo := h.rkeep ⟨6, pair, index, left, stamp, data⟩ (own + 1) last (by rw [show rNext p ws _ = _ from e1] at hinv; exact hinv) rfl (by simp) (by simp) h.le3 (fun e => absurd e (by simp)) (fun e => absurd e (by simp)) (fun _ e => absurd e (by simp)) (fun _ e => absurd e (by simp)) (fun e => absurd e (by simp)) (fun e => absurd e (by simp)) (fun e => absurd e (by simp))
      simp only [stepR, e1, e2]
      exact hgo
    · have hm : c pair index ≠ 0 := fun e => hz (by rw [if_pos e] at hwhole; exact hwhole)
      rw [if_neg hm] at hwhole
      have hle := mod_lt' p hw (c pair index)
      have el : rLeft p ws ⟨3, pair, index, left, stamp, data⟩ = (1 + c pair index % p.words.toNat : Nat) := by simp only [rLeft]; rw [hwhole.1, if_pos hle]
      have e1 : rNext p ws ⟨3, pair, index, left, stamp, data⟩ = ⟨4, pair, index, 1 + c pair index % p.words.toNat, stamp, data⟩ := by simp only [rNext, if_neg hz, el, Int.toNat_natCast]
      have e2 : rDid p ws now ⟨3, pair, index, left, stamp, data⟩ = { buffer := 1 + (2 * pair + index) } := by simp only [rDid, if_neg hz]
      have hgo := h.rkeep ⟨4, pair, index, 1 + c pair index % p.words.toNat, stamp, data⟩ (own + 1) last (by rw [show rNext p ws _ = _ from e1] at hinv; exact hinv) rfl (by simp) (by simp) h.le3 (fun _ => ⟨by simp, rfl⟩) (fun e => absurd e (by simp)) (fun _ _ => hHH) (fun _ _ => ⟨hm, rfl⟩) (fun _ => hd0) (fun e => absurd e (by simp)) (fun _ => by show own + 1 = 4 + data.length; omega)
      simp only [stepR, e1, e2]
      exact hgo
  · -- when
    obtain ⟨l1, l2⟩ := hL (by simp) (by simp)
    have hd0 := h4 (by simp)
    subst hd0
    exact h.rkeep ⟨5, pair, index, left, ldW ws (p.buf pair index + 1), []⟩ (own + 1) last hinv rfl (by simp) (by simp) h.le3 (fun _ => ⟨by simp, rfl⟩) (fun e => absurd e (by simp)) (fun _ _ => hH (by simp) (by simp)) (fun _ _ => ⟨l1, l2⟩) (fun e => absurd e (by simp)) (fun _ => ⟨rfl, by show 0 < left; omega⟩) (fun _ => by show own + 1 = 5 + 0; simp at hO; omega)
  · -- word
    obtain ⟨l1, l2⟩ := hL (by simp) (by simp)
    obtain ⟨d1, d2⟩ := h5 rfl
    have hHH := hH (by simp) (by simp)
    have hwhole : Holds p ws pair index (c pair index) := hwh pair index hrp hri fun e => hap (by omega) e.2.1 (by simp) (by simp) ⟨e.2.2.1.symm, e.2.2.2.symm⟩
    unfold Holds at hwhole
    rw [if_neg l1] at hwhole
    have hv := hwhole.2 data.length (by omega)
    have hrep : data ++ [ldW ws (p.buf pair index + 2 + data.length)] = List.replicate (data.length + 1) (c pair index : Int) := by rw [hv, List.replicate_succ']; rw [← d1]
    by_cases hl : data.length + 1 < left
    · have e1 : rNext p ws ⟨5, pair, index, left, stamp, data⟩ = ⟨5, pair, index, left, stamp, data ++ [ldW ws (p.buf pair index + 2 + data.length)]⟩ := by simp only [rNext, if_pos hl]
      have e2 : rDid p ws now ⟨5, pair, index, left, stamp, data⟩ = {} := by simp only [rDid, if_pos hl]
      have hgo := h.rkeep ⟨5, pair, index, left, stamp, List.replicate (data.length + 1) (c pair index : Int)⟩ (own + 1) last (by rw [show rNext p ws _ = _ from e1, hrep] at hinv; exact hinv) rfl (by simp) (by simp) h.le3 (fun _ => ⟨by simp, rfl⟩) (fun e => absurd e (by simp)) (fun _ _ => hHH) (fun _ _ => ⟨l1, l2⟩) (fun e => absurd e (by simp)) (fun _ => ⟨by simp, by simp only [List.length_replicate]; exact hl⟩) (fun _ => by simp only [List.length_replicate]; omega)
      simp only [stepR, e1, e2, hrep]
      exact hgo
    · have e1 : rNext p ws ⟨5, pair, index, left, stamp, data⟩ = ⟨6, pair, index, left, stamp, data ++ [ldW ws (p.buf pair index + 2 + data.length)]⟩ := by simp only [rNext, if_neg hl]
      have e2 : rDid p ws now ⟨5, pair, index, left, stamp, data⟩ = { done := true, data := data ++ [ldW ws (p.buf pair index + 2 + data.length)], valid := decide (now - stamp ≤ p.period) } := by simp only [rDid, if_neg hl]
      have hlast : ((List.replicate (data.length + 1) (c pair index : Int)).headD 0).toNat = c pair index := by rw [List.replicate_succ]; simp
      have hgo := h.rkeep ⟨6, pair, index, left, stamp, List.replicate (data.length + 1) (c pair index : Int)⟩ (own + 1) (c pair index) (by rw [show rNext p ws _ = _ from e1, hrep] at hinv; exact hinv) rfl (by simp) (by simp) hHH.2 (fun e => absurd e (by simp)) (fun e => absurd e (by simp)) (fun _ e => absurd e (by simp)) (fun _ e => absurd e (by simp)) (fun e => absurd e (by simp)) (fun e => absurd e (by simp)) (fun e => absurd e (by simp))
      simp only [stepR, e1, e2, hrep, hlast]
      exact hgo
/-- What the read's step tells. -/
theorem J.told_r {p : Plc} {s : Sg} {c : Int → Int → Nat} (now : Int) (hw16 : p.words ≤ 16) (h : J p s c) (h0 : s.r.pc ≤ 5) :
    ((rDid p s.ws now s.r).done = false → (stepR p now s).r.pc ≤ 5 ∧ (stepR p now s).own < 40) ∧
    ((rDid p s.ws now s.r).done = true → (stepR p now s).r.pc = 6 ∧ (((rDid p s.ws now s.r).code = 1 ∧ s.begun = 0 ∧ s.first = 0 ∧ s.last = 0 ∧ (rDid p s.ws now s.r).data = [] ∧ (stepR p now s).own = 4) ∨
      ((rDid p s.ws now s.r).code = 0 ∧ ∃ m : Nat, (rDid p s.ws now s.r).data = msg p.words m ∧ 1 ≤ m ∧ s.begun ≤ m ∧ s.first ≤ m ∧ s.last ≤ m ∧ m ≤ s.marked ∧ (stepR p now s).own = (rDid p s.ws now s.r).data.length + 5))) := by
  have hw := h.ok.words
  have hH := h.jH
  have hN := h.num h0
  have hL := h.lft
  have h4 := h.rd4
  have h5 := h.rd5
  have hO := h.own h0
  have hwh := h.whole
  have hap := h.inv.apart
  have hri := h.inv.ri
  have hrp := h.inv.rp
  obtain ⟨ws, w, ⟨pc, pair, index, left, stamp, data⟩, n, written, mk, begun, first, last, steps, own⟩ := s
  simp only at h0 hH hN hL h4 h5 hO hwh hap hri hrp
  rcases or6 _ h0 with e | e | e | e | e | e <;> subst e
  · have := h4 (by simp)
    subst this
    exact ⟨fun _ => ⟨by show 1 ≤ 5; omega, by show own + 1 < 40; simp at hO; omega⟩, fun e => absurd e (by simp [rDid])⟩
  · have := h4 (by simp)
    subst this
    exact ⟨fun _ => ⟨by show 2 ≤ 5; omega, by show own + 1 < 40; simp at hO; omega⟩, fun e => absurd e (by simp [rDid])⟩
  · have := h4 (by simp)
    subst this
    exact ⟨fun _ => ⟨by show 3 ≤ 5; omega, by show own + 1 < 40; simp at hO; omega⟩, fun e => absurd e (by simp [rDid])⟩
  · have hd0 := h4 (by simp)
    subst hd0
    have hHH := hH (by simp) (by simp)
    have hwhole : Holds p ws pair index (c pair index) := hwh pair index hrp hri fun e => hap (by omega) e.2.1 (by simp) (by simp) ⟨e.2.2.1.symm, e.2.2.2.symm⟩
    unfold Holds at hwhole
    by_cases hz : ldW ws (p.buf pair index) = 0
    · have e1 : rNext p ws ⟨3, pair, index, left, stamp, []⟩ = ⟨6, pair, index, left, stamp, []⟩ := by simp only [rNext, if_pos hz]
      have e2 : rDid p ws now ⟨3, pair, index, left, stamp, []⟩ = { done := true, code := 1, buffer := 1 + (2 * pair + index) } := by simp only [rDid, if_pos hz]
      have hm : c pair index = 0 := by
        apply Classical.byContradiction
        intro e
        rw [if_neg e] at hwhole
        have := hwhole.1
        omega
      simp only [stepR, e1, e2]
      exact ⟨fun e => absurd e (by simp), fun _ => ⟨by trivial, .inl ⟨by trivial, by omega, by omega, by omega, by trivial, by simp at hO; omega⟩⟩⟩
    · have e1 : (rNext p ws ⟨3, pair, index, left, stamp, []⟩).pc = 4 := by simp only [rNext, if_neg hz]
      have e2 : rDid p ws now ⟨3, pair, index, left, stamp, []⟩ = { buffer := 1 + (2 * pair + index) } := by simp only [rDid, if_neg hz]
      simp only [stepR, e1, e2]
      exact ⟨fun _ => ⟨by omega, by simp at hO; omega⟩, fun e => absurd e (by simp)⟩
  · have := h4 (by simp)
    subst this
    exact ⟨fun _ => ⟨by show 5 ≤ 5; omega, by show own + 1 < 40; simp at hO; omega⟩, fun e => absurd e (by simp [rDid])⟩
  · obtain ⟨l1, l2⟩ := hL (by simp) (by simp)
    obtain ⟨d1, d2⟩ := h5 rfl
    have hHH := hH (by simp) (by simp)
    have hle := mod_lt' p hw (c pair index)
    have hwhole : Holds p ws pair index (c pair index) := hwh pair index hrp hri fun e => hap (by omega) e.2.1 (by simp) (by simp) ⟨e.2.2.1.symm, e.2.2.2.symm⟩
    unfold Holds at hwhole
    rw [if_neg l1] at hwhole
    have hv := hwhole.2 data.length (by omega)
    have hrep : data ++ [ldW ws (p.buf pair index + 2 + data.length)] = List.replicate (data.length + 1) (c pair index : Int) := by rw [hv, List.replicate_succ']; rw [← d1]
    by_cases hl : data.length + 1 < left
    · have e1 : (rNext p ws ⟨5, pair, index, left, stamp, data⟩).pc = 5 := by simp only [rNext, if_pos hl]
      have e2 : rDid p ws now ⟨5, pair, index, left, stamp, data⟩ = {} := by simp only [rDid, if_pos hl]
      simp only [stepR, e1, e2]
      exact ⟨fun _ => ⟨by omega, by omega⟩, fun e => absurd e (by simp)⟩
    · have e1 : (rNext p ws ⟨5, pair, index, left, stamp, data⟩).pc = 6 := by simp only [rNext, if_neg hl]
      have e2 : rDid p ws now ⟨5, pair, index, left, stamp, data⟩ = { done := true, data := data ++ [ldW ws (p.buf pair index + 2 + data.length)], valid := decide (now - stamp ≤ p.period) } := by simp only [rDid, if_neg hl]
      simp only [stepR, e1, e2, hrep]
      refine ⟨fun e => absurd e (by simp), fun _ => ⟨trivial, .inr ⟨trivial, c pair index, ?_, by omega, by omega, by omega, by omega, hHH.2, by simp only [List.length_replicate]; omega⟩⟩⟩
      rw [msg, show data.length + 1 = 1 + c pair index % p.words.toNat by omega]
end Go.Proofs.YtmidcnfmphlneaaGreat

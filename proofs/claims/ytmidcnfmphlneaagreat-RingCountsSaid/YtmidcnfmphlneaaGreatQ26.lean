/- Layer 12: what a play does, plain: an act keeps what holds between two acts; wherever numbers begin, the same counts come. Nothing of the program.; The laws of layer 12: what they share. -/
import Derived.Test.YtmidcnfmphlneaaGreatQ17
import Derived.Test.YtmidcnfmphlneaaGreatQ24
import Derived.Test.YtmidcnfmphlneaaGreatQ25
namespace Go.Proofs.YtmidcnfmphlneaaGreat
section
open Go.RowKit
set_option linter.unusedSimpArgs false
set_option linter.unusedVariables false

/-- An act: a step of the send, a step of the receive. -/
def nxS (p : Pl) (b : Int) (z : Rs) : Rs := stepS p (if z.sOn = true then z else begS p b z)
def nxQ (p : Pl) (b : Int) (z : Rs) : Rs := stepQ p (if z.rOn = true then z else begQ p b z)
theorem JR.onS {p : Pl} {b : Int} {z : Rs} (h : JR p b z) : JR p b (if z.sOn = true then z else Go.Proofs.YtmidcnfmphlneaaGreat.begS p b z) ∧ (if z.sOn = true then z else Go.Proofs.YtmidcnfmphlneaaGreat.begS p b z).sOn = true := by
  split
  · exact ⟨h, by assumption⟩
  · exact ⟨h.begS (by simpa using ‹¬ z.sOn = true›), rfl⟩
theorem JR.onQ {p : Pl} {b : Int} {z : Rs} (h : JR p b z) : JR p b (if z.rOn = true then z else Go.Proofs.YtmidcnfmphlneaaGreat.begQ p b z) ∧ (if z.rOn = true then z else Go.Proofs.YtmidcnfmphlneaaGreat.begQ p b z).rOn = true := by
  split
  · exact ⟨h, by assumption⟩
  · exact ⟨h.begQ, rfl⟩
theorem JR.nxS {p : Pl} {b : Int} {z : Rs} (h : JR p b z) : JR p b (Go.Proofs.YtmidcnfmphlneaaGreat.nxS p b z) := h.onS.1.s h.onS.2
theorem JR.nxQ {p : Pl} {b : Int} {z : Rs} (h : JR p b z) : JR p b (Go.Proofs.YtmidcnfmphlneaaGreat.nxQ p b z) := h.onQ.1.q h.onQ.2
theorem nxS_sent (p : Pl) (b : Int) (z : Rs) : (nxS p b z).sent ≤ z.sent + 1 := by
  unfold nxS stepS
  dsimp only
  split <;> split <;> (first | exact Nat.le_refl _ | exact Nat.le_succ _)
theorem nxQ_sent (p : Pl) (b : Int) (z : Rs) : (nxQ p b z).sent = z.sent := by
  unfold nxQ stepQ
  dsimp only
  split <;> rfl
/-- The counts alone. -/
structure Ab where
  (sent got n pc rpc dl : Nat) (sOn rOn : Bool)
deriving DecidableEq
def absR (z : Rs) : Ab := ⟨z.sent, z.got, z.n, if z.sOn then z.s.pc else 0, if z.rOn then z.r.pc else 0, if z.rOn then z.r.data.length else 0, z.sOn, z.rOn⟩
/-- The length of message n. -/
def lenA (wd n : Nat) : Nat := 1 + n % wd
def abS (wd dp : Nat) (a : Ab) : Ab :=
  if a.pc = 0 then (if a.sent = a.got + dp then { a with sOn := false, pc := 0 } else { a with sOn := true, pc := 1 })
  else if a.pc = 2 + lenA wd a.n then { a with pc := 3 + lenA wd a.n, sent := a.sent + 1 }
  else if a.pc = 3 + lenA wd a.n then { a with pc := 0, sOn := false, n := a.n + 1 }
  else { a with pc := a.pc + 1 }
def abQ (wd : Nat) (a : Ab) : Ab :=
  if a.rpc = 0 then (if a.sent = a.got then { a with rOn := false, rpc := 0, dl := 0 } else { a with rOn := true, rpc := 1, dl := 0 })
  else if a.rpc = 1 then { a with rpc := 2, dl := 0 }
  else if a.dl < lenA wd a.got then { a with dl := a.dl + 1 }
  else { a with rOn := false, rpc := 0, dl := 0, got := a.got + 1 }
theorem absR_S {p : Pl} {b : Int} {z : Rs} (h : JR p b z) : absR (nxS p b z) = abS p.words.toNat p.deep.toNat (absR z) := by
  have hb : absR (if z.sOn = true then z else begS p b z) = { absR z with sOn := true } := by
    by_cases h0 : z.sOn = true
    · rw [if_pos h0]
      unfold absR
      simp [h0]
    · rw [if_neg h0]
      have h1 : z.sOn = false := by simpa using h0
      unfold absR
      simp only [begS, snd0, h1, if_true]
      rfl
  obtain ⟨hj, ho⟩ := h.onS
  obtain ⟨y, hy⟩ : ∃ y, (if z.sOn = true then z else begS p b z) = y := ⟨_, rfl⟩
  rw [hy] at hb hj ho
  have e0 : abS p.words.toNat p.deep.toNat (absR z) = abS p.words.toNat p.deep.toNat (absR y) := by
    have hz : absR z = { absR y with sOn := z.sOn } := by rw [hb]; rfl
    rw [hz]
    have hpc : z.sOn = false → (absR y).pc = 0 := fun e => by rw [hb]; unfold absR; simp [e]
    have hon : (absR y).sOn = true := by rw [hb]
    unfold abS
    dsimp only
    by_cases hzs : z.sOn = true
    · rw [hzs, ← hon]
    · have h1 : z.sOn = false := by simpa using hzs
      rw [hpc h1]
      simp
  rw [e0]
  unfold nxS
  rw [hy]
  obtain ⟨d1, d2, d3⟩ := hj.sd ho
  have hlen : y.s.data.length = lenA p.words.toNat y.n := by rw [d1, rmsg_len]; rfl
  have hpc : (absR y).pc = y.s.pc := by unfold absR; simp [ho]
  have hdp := deep_pos hj.ok
  have hle := hj.le
  have hdd := hj.dp
  by_cases c0 : y.s.pc = 0
  · obtain ⟨a1, a2⟩ := hj.sa ho (by omega)
    have hf := hj.full (by rw [a2, a1])
    have hm : sMem p y.ws y.s = y.ws := by unfold sMem; rw [if_neg (by omega), if_neg (by omega), if_neg (by omega)]
    unfold abS
    rw [hpc, if_pos c0]
    by_cases hfull : (y.sent : Int) - y.got = p.deep
    · rw [decide_eq_true hfull] at hf
      have e1 : sDid p y.ws y.s = { done := true, mark := true, code := 2 } := by unfold sDid; rw [if_pos c0, if_pos hf]
      rw [if_pos (show (absR y).sent = (absR y).got + p.deep.toNat by show y.sent = y.got + p.deep.toNat; omega)]
      unfold stepS absR
      rw [e1]
      simp
    · rw [decide_eq_false hfull] at hf
      have e1 : sDid p y.ws y.s = {} := by unfold sDid; rw [if_pos c0, if_neg (by rw [hf]; simp)]
      have e3 : sNext p y.ws y.s = { y.s with pc := 1 } := by unfold sNext; rw [if_pos c0, if_neg (by rw [hf]; simp)]
      rw [if_neg (show ¬ (absR y).sent = (absR y).got + p.deep.toNat by show ¬ y.sent = y.got + p.deep.toNat; omega)]
      unfold stepS absR
      rw [e1, e3]
      simp
  · unfold abS
    rw [hpc, if_neg c0]
    have hn : (absR y).n = y.n := rfl
    rw [hn, ← hlen]
    by_cases c3 : y.s.pc = 2 + y.s.data.length
    · have e1 : sDid p y.ws y.s = { mark := true } := by unfold sDid; rw [if_neg c0, if_pos c3]
      have e3 : sNext p y.ws y.s = { y.s with pc := 3 + y.s.data.length, own := nx32 y.s.own } := by unfold sNext; rw [if_neg c0, if_pos c3]
      rw [if_pos c3]
      unfold stepS absR
      rw [e1, e3]
      simp [ho]
    · rw [if_neg c3]
      by_cases c4 : y.s.pc = 3 + y.s.data.length
      · have e1 : sDid p y.ws y.s = { done := true, ring := true } := by unfold sDid; rw [if_neg c0, if_neg c3, if_pos c4]
        rw [if_pos c4]
        unfold stepS absR
        rw [e1]
        simp
      · have e1 : sDid p y.ws y.s = {} := by unfold sDid; rw [if_neg c0, if_neg c3, if_neg c4]
        have e3 : sNext p y.ws y.s = { y.s with pc := y.s.pc + 1 } := by unfold sNext; rw [if_neg c0, if_neg c3, if_pos (by omega)]
        rw [if_neg c4]
        unfold stepS absR
        rw [e1, e3]
        simp [ho]
theorem absR_Q {p : Pl} {b : Int} {z : Rs} (h : JR p b z) : absR (nxQ p b z) = abQ p.words.toNat (absR z) := by
  have hb : absR (if z.rOn = true then z else begQ p b z) = { absR z with rOn := true } := by
    by_cases h0 : z.rOn = true
    · rw [if_pos h0]
      unfold absR
      simp [h0]
    · rw [if_neg h0]
      have h1 : z.rOn = false := by simpa using h0
      unfold absR
      simp only [begQ, rcv0, h1, if_true]
      rfl
  obtain ⟨hj, ho⟩ := h.onQ
  obtain ⟨y, hy⟩ : ∃ y, (if z.rOn = true then z else begQ p b z) = y := ⟨_, rfl⟩
  rw [hy] at hb hj ho
  have e0 : abQ p.words.toNat (absR z) = abQ p.words.toNat (absR y) := by
    have hz : absR z = { absR y with rOn := z.rOn } := by rw [hb]; rfl
    rw [hz]
    have hpc : z.rOn = false → (absR y).rpc = 0 := fun e => by rw [hb]; unfold absR; simp [e]
    have hon : (absR y).rOn = true := by rw [hb]
    unfold abQ
    dsimp only
    by_cases hzs : z.rOn = true
    · rw [hzs, ← hon]
    · have h1 : z.rOn = false := by simpa using hzs
      rw [hpc h1]
      simp
  rw [e0]
  unfold nxQ
  rw [hy]
  obtain ⟨o1, o2, o3⟩ := hj.rc ho
  have hpc : (absR y).rpc = y.r.pc := by unfold absR; simp [ho]
  have hw := hj.ok.words
  by_cases c0 : y.r.pc = 0
  · have he := hj.empty o1
    unfold abQ
    rw [hpc, if_pos c0]
    by_cases hem : y.sent = y.got
    · rw [decide_eq_true hem] at he
      have e1 : qDid p y.ws y.r = { done := true, mark := true, code := 2 } := by unfold qDid; rw [if_pos c0, if_pos he]
      rw [if_pos (show (absR y).sent = (absR y).got from hem)]
      unfold stepQ absR
      rw [e1]
      simp
    · rw [decide_eq_false hem] at he
      have e1 : qDid p y.ws y.r = {} := by unfold qDid; rw [if_pos c0, if_neg (by rw [he]; simp)]
      have e3 : qNext p y.ws y.r = { y.r with pc := 1 } := by unfold qNext; rw [if_pos c0, if_neg (by rw [he]; simp)]
      rw [if_neg (show ¬ (absR y).sent = (absR y).got from hem)]
      unfold stepQ absR
      rw [e1, e3]
      simp [hj.r0 ho (by omega)]
  · have hlt := hj.r1 ho (by omega)
    unfold abQ
    rw [hpc, if_neg c0]
    by_cases c1 : y.r.pc = 1
    · have e1 : qDid p y.ws y.r = {} := by unfold qDid; rw [if_neg c0, if_neg (by omega)]
      have e3 : qNext p y.ws y.r = { y.r with pc := 2, left := (qLeft p y.ws y.r).toNat } := by unfold qNext; rw [if_neg c0, if_pos c1]
      rw [if_pos c1]
      unfold stepQ absR
      rw [e1, e3]
      simp [hj.r0 ho (by omega), ho]
    · have c2 : y.r.pc = 2 := by omega
      obtain ⟨l1, l2, l3⟩ := hj.r2 ho c2
      have hdl : (absR y).dl = y.r.data.length := by unfold absR; simp [ho]
      have hgl : lenA p.words.toNat (absR y).got = y.r.left := by rw [l1, rmsg_len]; rfl
      rw [if_neg c1, hdl, hgl]
      by_cases hlt2 : y.r.data.length < y.r.left
      · have e1 : qDid p y.ws y.r = {} := by unfold qDid; rw [if_neg c0, if_neg (by omega)]
        have e3 : qNext p y.ws y.r = { y.r with data := y.r.data ++ [ldW y.ws (y.r.cell + 1 + y.r.data.length)] } := by unfold qNext; rw [if_neg c0, if_neg c1, if_pos c2, if_pos hlt2]
        rw [if_pos hlt2]
        unfold stepQ absR
        rw [e1, e3]
        simp [ho]
      · have e1 : qDid p y.ws y.r = { done := true, mark := true, data := y.r.data } := by unfold qDid; rw [if_neg c0, if_pos ⟨c2, by omega⟩]
        rw [if_neg hlt2]
        unfold stepQ absR
        rw [e1]
        simp
end
section
open Go.RowKit
set_option linter.unusedSimpArgs false
set_option linter.unusedVariables false
theorem how_any (h0 h1 : Int) (q0 : 0 ≤ h0 ∧ h0 ≤ 255) (q1 : 0 ≤ h1 ∧ h1 ≤ 255) : ∃ wd e dp : Int, (1 ≤ wd ∧ wd ≤ 4) ∧ (0 ≤ e ∧ e ≤ 3) ∧ (dp = 1 ∨ dp = 2 ∨ dp = 4 ∨ dp = 8) ∧ Int.tmod h0 4 = wd - 1 ∧ Int.tmod h1 4 = e ∧ (2 : Int) ^ e.toNat = dp := by
  obtain ⟨e, he⟩ : ∃ e, h1 % 4 = e := ⟨_, rfl⟩
  have h4 : 0 ≤ e ∧ e ≤ 3 := by omega
  have e1 : Int.tmod h0 4 = (1 + h0 % 4) - 1 := by rw [Int.tmod_eq_emod_of_nonneg (by omega)]; omega
  have e2 : Int.tmod h1 4 = e := by rw [Int.tmod_eq_emod_of_nonneg (by omega)]; exact he
  have e3 : e = 0 ∨ e = 1 ∨ e = 2 ∨ e = 3 := by omega
  rcases e3 with rfl | rfl | rfl | rfl
  · exact ⟨1 + h0 % 4, 0, 1, by omega, by omega, .inl rfl, e1, e2, rfl⟩
  · exact ⟨1 + h0 % 4, 1, 2, by omega, by omega, .inr (.inl rfl), e1, e2, rfl⟩
  · exact ⟨1 + h0 % 4, 2, 4, by omega, by omega, .inr (.inr (.inl rfl)), e1, e2, rfl⟩
  · exact ⟨1 + h0 % 4, 3, 8, by omega, by omega, .inr (.inr (.inr rfl)), e1, e2, rfl⟩
structure Run (w0 w : World) (P B D BB : Nat) (kc : Cf12) (wd dp b : Int) (z : Rs) (OS OR : Nat) (S R : Nat → Prop) (st ow : Nat) (sv rv : Value) (x : List Bool) (k : Nat) : Prop where
  pl : PlayAt w0 w P B D BB kc wd dp b z OS OR S R st ow sv rv x
  jr : JR (pl12 wd dp) b z
  le : z.sent ≤ k
theorem Run.send {w0 w : World} {P B D BB : Nat} {kc : Cf12} {wd dp b : Int} {z : Rs} {OS OR : Nat} {S R : Nat → Prop} {st ow : Nat} {sv rv : Value} {x : List Bool} {k : Nat} (hk : Cf12Ok w0 kc wd dp b) (h : Run w0 w P B D BB kc wd dp b z OS OR S R st ow sv rv x k) (hb : k ≤ 100000) :
    Calls Tryz.prog 33 #[.pointer (some ⟨P, 0, none⟩)] w fun e w' => e = .returned (.bool true) ∧ ∃ (OS' st' : Nat) (S' : Nat → Prop) (sv' : Value) (x' : List Bool), Run w0 w' P B D BB kc wd dp b (nxS (pl12 wd dp) b z) OS' OR S' R st' ow sv' rv x' (k + 1) ∧ Only (fun k => S k ∨ k = P ∨ k = D ∨ k = BB) w w' ∧ ∀ k, S' k → S k ∨ w.heap.size ≤ k :=
  (psend_any hk h.jr (Nat.le_trans h.le hb) w h.pl).mono fun e w' ⟨he, OS', st', S', sv', x', h1, h2, h3⟩ => ⟨he, OS', st', S', sv', x', ⟨h1, h.jr.nxS, Nat.le_trans (nxS_sent _ _ _) (Nat.succ_le_succ h.le)⟩, h2, h3⟩
theorem Run.recv {w0 w : World} {P B D BB : Nat} {kc : Cf12} {wd dp b : Int} {z : Rs} {OS OR : Nat} {S R : Nat → Prop} {st ow : Nat} {sv rv : Value} {x : List Bool} {k : Nat} (hk : Cf12Ok w0 kc wd dp b) (h : Run w0 w P B D BB kc wd dp b z OS OR S R st ow sv rv x k) (hb : k ≤ 100000) :
    Calls Tryz.prog 34 #[.pointer (some ⟨P, 0, none⟩)] w fun e w' => e = .returned (.bool true) ∧ ∃ (OR' ow' : Nat) (R' : Nat → Prop) (rv' : Value), Run w0 w' P B D BB kc wd dp b (nxQ (pl12 wd dp) b z) OS OR' S R' st ow' sv rv' x (k + 1) ∧ Only (fun k => R k ∨ k = P ∨ k = D) w w' ∧ ∀ k, R' k → R k ∨ w.heap.size ≤ k :=
  (precv_any hk h.jr (Nat.le_trans h.le hb) w h.pl).mono fun e w' ⟨he, OR', ow', R', rv', h1, h2, h3⟩ => ⟨he, OR', ow', R', rv', ⟨h1, h.jr.nxQ, by rw [nxQ_sent]; exact Nat.le_succ_of_le h.le⟩, h2, h3⟩
theorem bools12_of {w : World} {v : Value} (h : RdV w (.slice 1 .bool) v) : ∃ (a : Option Addr) (c : Nat) (l : List Bool), v = .slice a l.length c ∧ RowAt w 1 v l.length (l.map Value.bool) := by
  obtain ⟨l, h1, h2⟩ := rows_of (n := 0) (fun x : Bool => [Value.bool x]) (fun _ => True) (fun cs _ hr => by
    obtain ⟨x, hx⟩ := hr
    exact ⟨x, hx, trivial⟩) (fun _ => rfl) h
  have e : l.flatMap (fun x : Bool => [Value.bool x]) = l.map Value.bool := (List.map_eq_flatMap).symm
  rw [e] at h1
  obtain ⟨a, c, rfl, _, _⟩ := h1.shape
  exact ⟨a, c, l, rfl, h1⟩
theorem how_of {w : World} {v : Value} (h : RdV w (.pair 1 (.int .u8) (.pair 1 (.int .u8) .nil)) v) : ∃ h0 h1 : Int, v = .agg #[.int .u8 h0, .int .u8 h1] ∧ (0 ≤ h0 ∧ h0 ≤ 255) ∧ (0 ≤ h1 ∧ h1 ≤ 255) := by
  obtain ⟨cs, rfl, h2⟩ := h
  obtain ⟨x, cs', e1, h3, h4⟩ := rd_one h2
  obtain ⟨y, cs'', e2, h5, h6⟩ := rd_one h4
  obtain rfl := rd_nil h6
  obtain ⟨s0, rfl, hs⟩ := rd_int h3
  obtain ⟨d0, rfl, hd⟩ := rd_int h5
  subst e2
  have e3 : cs = [.int .u8 s0, .int .u8 d0] := e1
  rw [e3]
  exact ⟨s0, d0, rfl, bounds_u8 hs, bounds_u8 hd⟩
theorem boots_of {w : World} {v : Value} (h : RdV w (.pair 1 (.int .u32) (.pair 1 (.int .u32) .nil)) v) : ∃ h0 h1 : Int, v = .agg #[.int .u32 h0, .int .u32 h1] ∧ (0 ≤ h0 ∧ h0 < 4294967296) ∧ (0 ≤ h1 ∧ h1 < 4294967296) := by
  obtain ⟨cs, rfl, h2⟩ := h
  obtain ⟨x, cs', e1, h3, h4⟩ := rd_one h2
  obtain ⟨y, cs'', e2, h5, h6⟩ := rd_one h4
  obtain rfl := rd_nil h6
  obtain ⟨s0, rfl, hs⟩ := rd_int h3
  obtain ⟨d0, rfl, hd⟩ := rd_int h5
  subst e2
  have e3 : cs = [.int .u32 s0, .int .u32 d0] := e1
  rw [e3]
  have b1 := bounds_u32 hs
  have b2 := bounds_u32 hd
  exact ⟨s0, d0, rfl, by omega, by omega⟩
end
end Go.Proofs.YtmidcnfmphlneaaGreat

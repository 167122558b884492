/- Layer 12's play: the memory, the bells, the two ops: what a step of each leaves of them.; Layer 12's play in memory.; Layer 12's play: it begins. -/
import Derived.Test.YtmidcnfmphlneaaGreatQ20
import Derived.Test.YtmidcnfmphlneaaGreatQ11
namespace Go.Proofs.YtmidcnfmphlneaaGreat
section
open Go.RowKit
set_option linter.unusedSimpArgs false
set_option linter.unusedVariables false
structure Core (w0 w : World) (P B D BB : Nat) (wd dp : Int) (z : Rs) (OS OR : Nat) (S R : Nat → Prop) (x : List Bool) : Prop where
  s1 : z.sOn = true → ∃ (own : Int) (QB OBB g cap : Nat) (ps : List (Nat × Nat)), SndAt w S (qu12 wd dp own) z.s OS QB OBB g cap ps
  r1 : z.rOn = true → ∃ (own : Int) (QB OBB DB EB WB bs : Nat), (B < bs ∧ D < bs) ∧ RcvAt w R (qu12 wd dp own) z.r OR QB OBB DB EB WB bs
  mem : MemAt w B D z.ws
  bell : BAt w BB x
  xl : x.length = 2
  words : Words z.ws
  len : (z.ws.length : Int) = 3 + dp * (1 + wd)
  sS : ∀ k, S k → w0.heap.size ≤ k ∧ k < w.heap.size ∧ k ≠ P ∧ k ≠ B ∧ k ≠ D ∧ k ≠ BB ∧ ¬ R k
  sR : ∀ k, R k → w0.heap.size ≤ k ∧ k < w.heap.size ∧ k ≠ P ∧ k ≠ B ∧ k ≠ D ∧ k ≠ BB
  ge : w0.heap.size ≤ B ∧ w0.heap.size ≤ D ∧ w0.heap.size ≤ BB
  low : Below w0.heap.size w0 w
theorem Core.bb {w0 w : World} {P B D BB : Nat} {wd dp : Int} {z : Rs} {OS OR : Nat} {S R : Nat → Prop} {x : List Bool} (h : Core w0 w P B D BB wd dp z OS OR S R x) : BB ≠ B ∧ BB ≠ D := by
  obtain ⟨b, hb, _⟩ := h.bell
  exact ⟨ne_of_type hb h.mem.head (by decide), ne_of_type hb h.mem.words (by decide)⟩
theorem Core.only {w0 w : World} {P B D BB : Nat} {wd dp : Int} {z : Rs} {OS OR : Nat} {S R : Nat → Prop} {x : List Bool} {w' : World} (h : Core w0 w P B D BB wd dp z OS OR S R x) {X : Nat → Prop} (ho : Only X w w') (hX : ∀ k, X k → w0.heap.size ≤ k ∧ ¬ S k ∧ ¬ R k ∧ k ≠ B ∧ k ≠ D ∧ k ≠ BB) : Core w0 w' P B D BB wd dp z OS OR S R x where
  s1 := fun e => (h.s1 e).imp fun own h => h.imp fun QB h => h.imp fun OBB h => h.imp fun g h => h.imp fun cap h => h.imp fun ps h => h.keep fun b o hb hbo => ho.blk hbo fun hx => (hX b hx).2.1 hb
  r1 := fun e => (h.r1 e).imp fun own h => h.imp fun QB h => h.imp fun OBB h => h.imp fun DB h => h.imp fun EB h => h.imp fun WB h => h.imp fun bs h => ⟨h.1, h.2.keep ho.size fun b o hb hbo => ho.blk hbo fun hx => (hX b hx).2.2.1 hb⟩
  mem := ⟨ho.blk h.mem.head fun hx => (hX _ hx).2.2.2.1 rfl, ho.blk h.mem.words fun hx => (hX _ hx).2.2.2.2.1 rfl, h.mem.len⟩
  bell := h.bell.imp fun b hb => ⟨ho.blk hb.1 fun hx => (hX _ hx).2.2.2.2.2 rfl, hb.2⟩
  xl := h.xl
  words := h.words
  len := h.len
  sS := fun k hk => have h1 := h.sS k hk; ⟨h1.1, Nat.lt_of_lt_of_le h1.2.1 ho.size, h1.2.2⟩
  sR := fun k hk => have h1 := h.sR k hk; ⟨h1.1, Nat.lt_of_lt_of_le h1.2.1 ho.size, h1.2.2⟩
  ge := h.ge
  low := h.low.trans (ho.below (fun k hk => (hX k hk).1) h.low.size)
theorem Core.below {w0 w : World} {P B D BB : Nat} {wd dp : Int} {z : Rs} {OS OR : Nat} {S R : Nat → Prop} {x : List Bool} {w' : World} (h : Core w0 w P B D BB wd dp z OS OR S R x) (hb : Below w.heap.size w w') : Core w0 w' P B D BB wd dp z OS OR S R x := h.only (X := fun _ => False) (Only.of_below hb) (fun _ hk => hk.elim)
theorem Core.dr {w0 w : World} {P B D BB : Nat} {wd dp : Int} {z : Rs} {OS OR : Nat} {S R : Nat → Prop} {x : List Bool} (h : Core w0 w P B D BB wd dp z OS OR S R x) : Core w0 w.drew P B D BB wd dp z OS OR S R x := h.below (below_dr (Below.refl _ _))
theorem Core.al {w0 w : World} {P B D BB : Nat} {wd dp : Int} {z : Rs} {OS OR : Nat} {S R : Nat → Prop} {x : List Bool} (h : Core w0 w P B D BB wd dp z OS OR S R x) (o : Obj) : Core w0 (w.alloc o) P B D BB wd dp z OS OR S R x := h.below (below_al (Below.refl _ _) o)
theorem Core.set {w0 w : World} {P B D BB : Nat} {wd dp : Int} {z : Rs} {OS OR : Nat} {S R : Nat → Prop} {x : List Bool} (h : Core w0 w P B D BB wd dp z OS OR S R x) (b o : Nat) (v : Value) (hb : w0.heap.size ≤ b ∧ ¬ S b ∧ ¬ R b ∧ b ≠ B ∧ b ≠ D ∧ b ≠ BB) : Core w0 (w.setCell ⟨b, o, none⟩ v) P B D BB wd dp z OS OR S R x :=
  h.only (X := fun k => k = b) (Only.of_but (ButS.set (ButS.refl [b] w) (p := ⟨b, o, none⟩) (by simp) v) (by simp)) (fun k hk => by subst hk; exact hb)
theorem Core.own {w0 w : World} {P B D BB : Nat} {wd dp : Int} {z : Rs} {OS OR : Nat} {S R : Nat → Prop} {x : List Bool} (h : Core w0 w P B D BB wd dp z OS OR S R x) {cs : Array Value} (hP : w.heap[P]? = some (.cells cs 77 (0, 0))) (h0 : w0.heap.size ≤ P) : w0.heap.size ≤ P ∧ ¬ S P ∧ ¬ R P ∧ P ≠ B ∧ P ≠ D ∧ P ≠ BB := by
  obtain ⟨b, hb, _⟩ := h.bell
  exact ⟨h0, fun hs => (h.sS P hs).2.2.1 rfl, fun hr => (h.sR P hr).2.2.1 rfl, ne_of_type hP h.mem.head (by decide), ne_of_type hP h.mem.words (by decide), ne_of_type hP hb (by decide)⟩
theorem Core.newS {w0 w : World} {P B D BB : Nat} {wd dp : Int} {z : Rs} {OS OR : Nat} {S R : Nat → Prop} {x : List Bool} {w' : World} (h : Core w0 w P B D BB wd dp z OS OR S R x) (hP : P < w.heap.size) (hb : Below w.heap.size w w') {O QB OBB bs g cap : Nat} {ps : List (Nat × Nat)} {own : Int} {l : List Int} (hN : SendNew w' w.heap.size O QB OBB bs g cap ps own (qu12 wd dp own) l) (hl : l.length ≤ 16) (ho : 0 ≤ own ∧ own < 4294967296) : Core w0 w' P B D BB wd dp { z with s := ⟨0, own, l, (qu12 wd dp own).cell⟩, sOn := true } O OR (fun k => w.heap.size ≤ k ∧ k < w'.heap.size) R x := by
  have h1 := h.below hb
  have hlow := h.low.size
  obtain ⟨b, hbb, _⟩ := h.bell
  have l1 := blk_lt hbb
  have l2 := blk_lt h.mem.head
  have l3 := blk_lt h.mem.words
  exact { s1 := fun _ => ⟨own, QB, OBB, g, cap, ps, hN.at hl ho _ fun b hb hlt => ⟨hb, hlt⟩⟩, r1 := h1.r1, mem := h1.mem, bell := h1.bell, xl := h1.xl, words := h1.words, len := h1.len, sS := fun k hk => ⟨by omega, hk.2, by omega, by omega, by omega, by omega, fun hr => by have := (h.sR k hr).2.1; omega⟩, sR := h1.sR, ge := h1.ge, low := h1.low }
theorem Core.newR {w0 w : World} {P B D BB : Nat} {wd dp : Int} {z : Rs} {OS OR : Nat} {S R : Nat → Prop} {x : List Bool} {w' : World} (h : Core w0 w P B D BB wd dp z OS OR S R x) (hP : P < w.heap.size) (hb : Below w.heap.size w w') {O g QB OBB DB EB WB : Nat} {own : Int} (hN : RcvNew w' (qu12 wd dp own) own O g QB OBB DB EB WB) (hn : w.heap.size ≤ O ∧ w.heap.size ≤ g ∧ w.heap.size ≤ QB ∧ w.heap.size ≤ OBB ∧ w.heap.size ≤ DB ∧ w.heap.size ≤ EB ∧ w.heap.size ≤ WB) (ho : 0 ≤ own ∧ own < 4294967296) : Core w0 w' P B D BB wd dp { z with r := ⟨0, own, 0, [], (qu12 wd dp own).cell⟩, rOn := true } OS O S (fun k => w.heap.size ≤ k ∧ k < w'.heap.size) x := by
  have h1 := h.below hb
  have hlow := h.low.size
  obtain ⟨b, hbb, _⟩ := h.bell
  have l1 := blk_lt hbb
  have l2 := blk_lt h.mem.head
  have l3 := blk_lt h.mem.words
  have l4 := hb.size
  exact { s1 := h1.s1, r1 := fun _ => ⟨own, QB, OBB, DB, EB, WB, w'.heap.size, ⟨by omega, by omega⟩, hN.at hn ho _ fun b hb hlt => ⟨hb, hlt⟩⟩, mem := h1.mem, bell := h1.bell, xl := h1.xl, words := h1.words, len := h1.len, sS := fun k hk => have h2 := h.sS k hk; ⟨h2.1, by omega, h2.2.2.1, h2.2.2.2.1, h2.2.2.2.2.1, h2.2.2.2.2.2.1, fun hr => by have hr' : w.heap.size ≤ k ∧ k < w'.heap.size := hr; omega⟩, sR := fun k hk => by have hk' : w.heap.size ≤ k ∧ k < w'.heap.size := hk; exact ⟨by omega, hk'.2, by omega, by omega, by omega, by omega⟩, ge := h1.ge, low := h1.low }
theorem words_sMem (p : Pl) (ws : List Int) (s : Snd) (h : Words ws) (hd : Words s.data) (hl : s.data.length < 4294967296) : Words (sMem p ws s) := by
  unfold sMem
  split
  · exact h.st _ _ (by omega) (by omega)
  · split
    · have hi : s.pc - 2 < s.data.length := by omega
      have e : s.data.getD (s.pc - 2) 0 = s.data[s.pc - 2] := by rw [List.getD_eq_getElem?_getD, List.getElem?_eq_getElem hi]; rfl
      have := hd _ (List.getElem_mem hi)
      rw [e]
      exact h.st _ _ this.1 this.2
    · split
      · exact h.st _ _ (u32_next _).1 (u32_next _).2
      · exact h
theorem words_qMem (p : Pl) (ws : List Int) (r : Rcv) (h : Words ws) : Words (qMem p ws r) := by
  unfold qMem
  split
  · exact h.st _ _ (u32_next _).1 (u32_next _).2
  · exact h
theorem words_rmsg (wd : Int) (n : Nat) : Words (rmsg wd n) := fun x hx => by
  rw [(List.mem_replicate.1 hx).2]
  omega
theorem qu12_ok' {wd dp bt : Int} (h : In12 wd dp bt) (own : Int) {ws : List Int} (hn : (ws.length : Int) = 3 + dp * (1 + wd)) : (qu12 wd dp own).ok ws.length := qu12_ok h own ws.length hn
theorem Core.send {w0 w : World} {P B D BB : Nat} {wd dp : Int} {z : Rs} {OS OR : Nat} {S R : Nat → Prop} {x : List Bool} {bt : Int} (hi : In12 wd dp bt) (h : Core w0 w P B D BB wd dp z OS OR S R x) (ho : z.sOn = true) (hd : Words z.s.data ∧ (z.s.data.length : Int) ≤ wd) (now : Int) :
    Calls Tryz.prog 36 #[.pointer (some ⟨OS, 0, none⟩), .pointer (some ⟨B, 0, none⟩), .pointer (some ⟨BB, 0, none⟩), .int .i64 now] w fun e w' => e = .returned (didV (sDid (pl12 wd dp) z.ws z.s) (.slice none 0 0)) ∧ (∃ lv, w'.heap[OS]? = some (.cells #[.int .u32 (sNext (pl12 wd dp) z.ws z.s).own, lv] 132 (0, 0))) ∧ Core w0 w' P B D BB wd dp (stepS (pl12 wd dp) z) OS OR S R (if z.s.pc = 3 + z.s.data.length then ringB x 1 else x) ∧ Only (fun k => S k ∨ k = D ∨ k = BB) w w' := by
  obtain ⟨own, QB, OBB, g, cap, ps, hS⟩ := h.s1 ho
  have hw := hi.w
  have hXn : ¬ S B ∧ ¬ S D ∧ ¬ S BB := ⟨fun e => (h.sS _ e).2.2.2.1 rfl, fun e => (h.sS _ e).2.2.2.2.1 rfl, fun e => (h.sS _ e).2.2.2.2.2.1 rfl⟩
  have hq := qu12_ok' hi own h.len
  refine (snd_step hS (qu12_fits wd dp own) hq h.mem h.bell hXn h.bb (show (z.s.data.length : Int) ≤ wd from hd.2) now).mono ?_
  rintro e w' ⟨rfl, hM, hB, hO, hN, hbut⟩
  have hon : Only (fun k => S k ∨ k = D ∨ k = BB) w w' := Only.of_but hbut (by
    simp only [List.mem_cons, List.not_mem_nil, or_false]
    rintro k (rfl | rfl | rfl)
    · exact .inl hS.inX.1
    · exact .inr (.inl rfl)
    · exact .inr (.inr rfl))
  refine ⟨rfl, hO, ?_, hon⟩
  exact {
    s1 := fun e => ⟨own, QB, OBB, g, cap, ps, hN (by simpa [stepS] using e)⟩
    r1 := fun e => (h.r1 e).imp fun own h1 => h1.imp fun QB h1 => h1.imp fun OBB h1 => h1.imp fun DB h1 => h1.imp fun EB h1 => h1.imp fun WB h1 => h1.imp fun bs h1 => ⟨h1.1, h1.2.keep hon.size fun b o hb hbo => hon.blk hbo (by
      have h2 := h.sR b hb
      rintro (hx | hx | hx)
      · exact (h.sS b hx).2.2.2.2.2.2 hb
      · exact h2.2.2.2.2.1 hx
      · exact h2.2.2.2.2.2 hx)⟩
    mem := hM
    bell := hB
    xl := by split <;> simp [ringB, h.xl] <;> (try split) <;> simp [h.xl]
    words := words_sMem _ _ _ h.words hd.1 (by omega)
    len := by show ((sMem (pl12 wd dp) z.ws z.s).length : Int) = _; rw [sMem_len]; exact h.len
    sS := fun k hk => have h1 := h.sS k hk; ⟨h1.1, Nat.lt_of_lt_of_le h1.2.1 hon.size, h1.2.2⟩
    sR := fun k hk => have h1 := h.sR k hk; ⟨h1.1, Nat.lt_of_lt_of_le h1.2.1 hon.size, h1.2.2⟩
    ge := h.ge
    low := h.low.trans (hon.below (by
      have := h.ge
      rintro k (hk | hk | hk)
      · exact (h.sS k hk).1
      · omega
      · omega) h.low.size) }
theorem Core.recv {w0 w : World} {P B D BB : Nat} {wd dp : Int} {z : Rs} {OS OR : Nat} {S R : Nat → Prop} {x : List Bool} {bt : Int} (hi : In12 wd dp bt) (h : Core w0 w P B D BB wd dp z OS OR S R x) (ho : z.rOn = true) (PLT : P < w.heap.size) (now : Int) :
    Calls Tryz.prog 36 #[.pointer (some ⟨OR, 0, none⟩), .pointer (some ⟨B, 0, none⟩), .pointer (some ⟨BB, 0, none⟩), .int .i64 now] w fun e w' => ∃ v, e = .returned (didV (qDid (pl12 wd dp) z.ws z.r) v) ∧ RowAt w' 1 v (qDid (pl12 wd dp) z.ws z.r).data.length (u32s (qDid (pl12 wd dp) z.ws z.r).data) ∧ (∀ b, v.ownBlock = some b → R b) ∧ (∃ lv, w'.heap[OR]? = some (.cells #[.int .u32 (qNext (pl12 wd dp) z.ws z.r).own, lv] 132 (0, 0))) ∧ Core w0 w' P B D BB wd dp (stepQ (pl12 wd dp) z) OS OR S (More R w w') x ∧ Only (fun k => R k ∨ k = D) w w' := by
  obtain ⟨own, QB, OBB, DB, EB, WB, bs, hBs, hR⟩ := h.r1 ho
  have hw := hi.w
  have hXn : ¬ R B ∧ ¬ R D := ⟨fun e => (h.sR _ e).2.2.2.1 rfl, fun e => (h.sR _ e).2.2.2.2.1 rfl⟩
  have hq := qu12_ok' hi own h.len
  refine (rcv_step (BB := BB) hR (qu12_fits wd dp own) hq h.words h.mem hXn hBs now).mono ?_
  rintro e w' ⟨v, rfl, hrow, hv, hM, hO, hN, hon⟩
  obtain ⟨b, hbb, _⟩ := h.bell
  have l1 := blk_lt hbb
  have l2 := blk_lt h.mem.head
  have l3 := blk_lt h.mem.words
  have lw := h.low.size
  have nBB : ¬ (R BB ∨ BB = D) := by
    rintro (hx | hx)
    · exact (h.sR _ hx).2.2.2.2.2 rfl
    · exact h.bb.2 hx
  refine ⟨v, rfl, hrow, hv, hO, ?_, hon⟩
  exact {
    s1 := fun e => (h.s1 e).imp fun own h1 => h1.imp fun QB h1 => h1.imp fun OBB h1 => h1.imp fun g h1 => h1.imp fun cap h1 => h1.imp fun ps h1 => h1.keep fun b o hb hbo => hon.blk hbo (by
      have h2 := h.sS b hb
      rintro (hx | hx)
      · exact h2.2.2.2.2.2.2 hx
      · exact h2.2.2.2.2.1 hx)
    r1 := fun e => ⟨own, QB, OBB, DB, EB, WB, bs, hBs, hN (by simpa [stepQ] using e)⟩
    mem := hM
    bell := h.bell.imp fun b hb => ⟨hon.blk hb.1 nBB, hb.2⟩
    xl := h.xl
    words := words_qMem _ _ _ h.words
    len := by show ((qMem (pl12 wd dp) z.ws z.r).length : Int) = _; rw [qMem_len]; exact h.len
    sS := fun k hk => have h1 := h.sS k hk; ⟨h1.1, Nat.lt_of_lt_of_le h1.2.1 hon.size, h1.2.2.1, h1.2.2.2.1, h1.2.2.2.2.1, h1.2.2.2.2.2.1, by
      rintro (hx | hx)
      · exact h1.2.2.2.2.2.2 hx
      · omega⟩
    sR := fun k hk => by
      rcases hk with hk | hk
      · have h1 := h.sR k hk; exact ⟨h1.1, Nat.lt_of_lt_of_le h1.2.1 hon.size, h1.2.2⟩
      · exact ⟨by omega, hk.2, fun e => by omega, by omega, by omega, by omega⟩
    ge := h.ge
    low := h.low.trans (hon.below (by
      have := h.ge
      rintro k (hk | hk)
      · exact (h.sR k hk).1
      · omega) h.low.size) }
end
section
open Go.RowKit
set_option linter.unusedSimpArgs false
set_option linter.unusedVariables false
structure PlayAt (w0 w : World) (P B D BB : Nat) (kc : Cf12) (wd dp b : Int) (z : Rs) (OS OR : Nat) (S R : Nat → Prop) (st ow : Nat) (sv rv : Value) (x : List Bool) : Prop where
  blk : w.heap[P]? = some (.cells #[.slice kc.pa 2 kc.pc, .slice (some ⟨kc.cg, kc.co, none⟩) 1 kc.cc, .int .i64 1, .slice kc.a0 1 kc.c0, .int .i64 1, .slice kc.a1 1 kc.c1, .pointer (some ⟨B, 0, none⟩), .pointer (some ⟨BB, 0, none⟩), sv, rv, .int .u32 ((b + z.n) % 4294967296), .int .u32 ((b + z.got) % 4294967296), .int .i64 z.sent, .int .i64 z.got, .int .i64 z.n, .int .i64 st, .int .i64 ow] 77 (0, 0))
  s0 : z.sOn = false → sv = .pointer none
  s1 : z.sOn = true → sv = .pointer (some ⟨OS, 0, none⟩) ∧ st = z.s.pc
  r0 : z.rOn = false → rv = .pointer none
  r1 : z.rOn = true → rv = .pointer (some ⟨OR, 0, none⟩) ∧ ow = (if z.r.pc ≤ 1 then z.r.pc else 2 + z.r.data.length)
  core : Core w0 w P B D BB wd dp z OS OR S R x
  pl : w0.heap.size ≤ P
theorem rep_set12 (x : Int) (k L : Nat) (h : k < L) : (List.replicate k x ++ List.replicate (L - k) 0).set k x = List.replicate (k + 1) x ++ List.replicate (L - (k + 1)) 0 := by
  rw [List.set_append_right _ _ (by simp), List.length_replicate, Nat.sub_self, show L - k = (L - (k + 1)) + 1 by omega, List.replicate_succ, List.set_cons_zero, List.replicate_succ', List.append_assoc]
  rfl
theorem rep_at12 (x : Int) (k L : Nat) (h : k < L) : (u32s (List.replicate k x ++ List.replicate (L - k) 0))[k]? = some (.int .u32 0) := by
  rw [u32s_at _ _ (by simp; omega), List.getElem_append_right (by simp)]
  simp
theorem blk_u32set12 {w : World} {G : Nat} {l : List Int} (h : w.heap[G]? = some (.cells (u32s l).toArray 41 (0, 0))) (k : Nat) (v : Int) : (w.setCell ⟨G, k, none⟩ (.int .u32 v)).heap[G]? = some (.cells (u32s (l.set k v)).toArray 41 (0, 0)) := by
  have h1 := blk_set h k (.int .u32 v)
  rwa [List.setIfInBounds_toArray, u32s_set] at h1
theorem bell_rung (x : List Bool) (h : x.length = 2) : bellB (ringB x 1) 1 = true := by
  match x, h with
  | [a, c], _ => cases a <;> cases c <;> rfl
theorem sDid_mark (p : Pl) (ws : List Int) (s : Snd) (hd : (sDid p ws s).done = true) : (sDid p ws s).mark = decide (s.pc = 0) := by
  unfold sDid at hd ⊢
  by_cases h0 : s.pc = 0
  · rw [if_pos h0] at hd ⊢
    split
    · simp [h0]
    · rename_i hf
      rw [if_neg hf] at hd
      cases hd
  · rw [if_neg h0] at hd ⊢
    rw [decide_eq_false h0]
    by_cases h1 : s.pc = 2 + s.data.length
    · rw [if_pos h1] at hd
      cases hd
    · rw [if_neg h1] at hd ⊢
      by_cases h2 : s.pc = 3 + s.data.length
      · rw [if_pos h2]
      · rw [if_neg h2]
theorem stepS_flds (p : Pl) (z : Rs) : (stepS p z).got = z.got ∧ (stepS p z).rOn = z.rOn ∧ (stepS p z).r = z.r ∧ (stepS p z).s = sNext p z.ws z.s := ⟨rfl, rfl, rfl, rfl⟩
theorem psz_at {w0 w : World} {P B D BB : Nat} {kc : Cf12} {wd dp bt : Int} {z : Rs} {OS OR : Nat} {S R : Nat → Prop} {x : List Bool} {n L : Nat} {cs : Array Value} {o1 o2 o3 nq : Nat} {v1 v2 v3 : Value} (hL : 1 + n % wd.toNat = L) (hn : n < 4294967296) (hk : Cf12Ok w0 kc wd dp bt) (hc : Core w0 w P B D BB wd dp z OS OR S R x) (hP : w.heap[P]? = some (.cells cs 77 (0, 0))) (hPS : w0.heap.size ≤ P ∧ ¬ S P ∧ ¬ R P ∧ P ≠ B ∧ P ≠ D ∧ P ≠ BB) (h1 : o1 ≠ 1 ∧ o2 ≠ 1 ∧ o3 ≠ 1 := by decide) (hcs : cs[1]? = some (.slice (some ⟨kc.cg, kc.co, none⟩) 1 kc.cc) := by rfl) :
    Calls Tryz.prog 58 #[.pointer (some ⟨P, 0, none⟩), .int .i64 n] ((((w.setCell ⟨P, o1, none⟩ v1).setCell ⟨P, o2, none⟩ v2).setCell ⟨P, o3, none⟩ v3).drewN nq) fun e w' => e = .returned (.int .i64 (L : Int)) ∧ w' = ((((w.setCell ⟨P, o1, none⟩ v1).setCell ⟨P, o2, none⟩ v2).setCell ⟨P, o3, none⟩ v3).drewN nq) := by
  have h3 := blk_set (blk_set (blk_set hP o1 v1) o2 v2) o3 v3
  rw [← hL]
  exact psize_any n hn P _ (hk.below (below_drN (((hc.set P o1 v1 hPS).set P o2 v2 hPS).set P o3 v3 hPS).low)) ((cell_blk h3 1).trans (by rw [Array.getElem?_setIfInBounds_ne h1.2.2, Array.getElem?_setIfInBounds_ne h1.2.1, Array.getElem?_setIfInBounds_ne h1.1]; exact hcs)) (blk_lt h3)
theorem Core.bell3 {w0 w : World} {P B D BB : Nat} {wd dp : Int} {z : Rs} {OS OR : Nat} {S R : Nat → Prop} {x : List Bool} {o1 o2 o3 : Nat} {v1 v2 v3 : Value} (hc : Core w0 w P B D BB wd dp z OS OR S R x) (hPS : w0.heap.size ≤ P ∧ ¬ S P ∧ ¬ R P ∧ P ≠ B ∧ P ≠ D ∧ P ≠ BB) : BAt (((w.setCell ⟨P, o1, none⟩ v1).setCell ⟨P, o2, none⟩ v2).setCell ⟨P, o3, none⟩ v3) BB x := (((hc.set P o1 v1 hPS).set P o2 v2 hPS).set P o3 v3 hPS).bell
end
section
open Go.RowKit
set_option linter.unusedSimpArgs false
set_option linter.unusedVariables false
def rs0 (wd dp bt : Int) (n : Nat) : Rs := ⟨stW (stW (List.replicate n 0) 1 bt) (2 + dp * (1 + wd)) bt, ⟨0, 0, [], 0⟩, ⟨0, 0, 0, [], 0⟩, false, false, 0, 0, 0⟩
theorem rs0_jr {wd dp bt : Int} (h : In12 wd dp bt) (n : Nat) (hn : (n : Int) = 3 + dp * (1 + wd)) : JR (pl12 wd dp) bt (rs0 wd dp bt n) := by
  have hb := dp_bound h
  have hbt := h.b
  have hw := h.w
  have l1 : (stW (List.replicate n 0) 1 bt).length = n := by simp [stW]
  have l2 : (stW (stW (List.replicate n 0) 1 bt) (2 + dp * (1 + wd)) bt).length = n := by simp [stW]
  have hdp : 2 ≤ dp * (1 + wd) := by rcases h.d with e | e | e | e <;> subst e <;> omega
  exact {
    ok := by show (pl12 wd dp).ok (stW _ _ _).length; rw [l2]; exact pl12_ok h n hn
    tl := by
      show ldW (stW (stW _ 1 bt) _ bt) 1 = (bt + ((0 : Nat) : Int)) % 4294967296
      rw [ld_st _ _ _ _ (by omega) (by omega) (by omega), ldW_same _ _ _ (by rw [List.length_replicate]; omega)]
      omega
    hd := by
      show ldW (stW (stW _ 1 bt) (2 + dp * (1 + wd)) bt) (2 + dp * (1 + wd)) = (bt + ((0 : Nat) : Int)) % 4294967296
      rw [ldW_same _ _ _ (by rw [l1]; omega)]
      omega
    le := Nat.le_refl _
    dp := by show ((0 : Nat) : Int) - ((0 : Nat) : Int) ≤ dp; rcases h.d with e | e | e | e <;> omega
    whole := fun m _ hm => absurd hm (Nat.not_lt_zero _)
    idle := fun _ => rfl
    sd := fun e => by cases e
    sa := fun e => by cases e
    sb := fun e => by cases e
    room := fun e => by cases e
    part := fun e => by cases e
    rc := fun e => by cases e
    r0 := fun e => by cases e
    r1 := fun e => by cases e
    r2 := fun e => by cases e }
theorem rs0_words {wd dp bt : Int} (h : In12 wd dp bt) (n : Nat) : Words (rs0 wd dp bt n).ws := by
  have hb := h.b
  exact Words.st (Words.st (fun x hx => by rw [(List.mem_replicate.1 hx).2]; omega) _ _ hb.1 hb.2) _ _ hb.1 hb.2
theorem size_n12 {kc : Cf12} {wd dp bt : Int} (n : Nat) (hn : (n : Int) = 3 + dp * (1 + wd)) (w : World) (h : Cf12Ok w kc wd dp bt) : Calls Tryz.prog 14 #[.agg #[.slice kc.pa 2 kc.pc, .slice (some ⟨kc.cg, kc.co, none⟩) 1 kc.cc, .int .i64 1, .slice kc.a0 1 kc.c0, .int .i64 1, .slice kc.a1 1 kc.c1]] w fun e w' => e = .returned (.int .i64 (n : Int)) ∧ Below w.heap.size w w' := by
  rw [hn]
  exact size_two12 w h
theorem mst12 (B D : Nat) (ws : List Int) (i : Nat) (v : Int) (hi : i < ws.length) (w : World) (h : MemAt w B D ws) : Calls Tryz.prog 22 #[.pointer (some ⟨B, 0, none⟩), .int .u64 i, .int .u32 v] w fun e w' => e = .returned (.int .i64 0) ∧ MemAt w' B D (stW ws i v) ∧ ButS [D] w w' :=
  (memStore_in B D ws i v hi w h).mono fun e w' ⟨he, hw⟩ => ⟨he, by subst hw; exact h.set i v, by subst hw; exact ButS.set (ButS.refl [D] w) (p := ⟨D, i, none⟩) (by simp) _⟩
theorem did_field12 (b0 : Bool) (c0 : Int) (a0 : Option Addr) (n0 k0 : Nat) (b1 : Bool) (c1 : Int) (b2 b3 b4 : Bool) (c2 : Int) (w : World) : (Instr.field 64 (.agg #[.bool b0, .int .i64 c0, .slice a0 n0 k0, .bool b1, .int .i64 c1, .bool b2, .bool b3, .bool b4, .int .i64 c2]) 0).run Tryz.prog w = .ok (.bool b0) w := by kernel_rfl
set_option maxRecDepth 100000 in
set_option maxHeartbeats 4000000 in
theorem begin12_any {kc : Cf12} {wd dp bt : Int} (n : Nat) (hn : (n : Int) = 3 + dp * (1 + wd)) (w : World) (hk : Cf12Ok w kc wd dp bt) : Calls Tryz.prog 31 #[.agg #[.slice kc.pa 2 kc.pc, .slice (some ⟨kc.cg, kc.co, none⟩) 1 kc.cc, .int .i64 1, .slice kc.a0 1 kc.c0, .int .i64 1, .slice kc.a1 1 kc.c1]] w fun e w' => ∃ P B D BB : Nat, e = .returned (.pointer (some ⟨P, 0, none⟩)) ∧ PlayAt w w' P B D BB kc wd dp bt (rs0 wd dp bt n) 0 0 (fun _ => False) (fun _ => False) 0 0 (.pointer none) (.pointer none) [false, false] ∧ w.heap.size ≤ BB := by
  have hi := hk.i
  have hb := dp_bound hi
  have hbt := hi.b
  have hfd := spn_field0
  obtain ⟨h, hh⟩ : ∃ h : Nat, (h : Int) = 1 + (1 + dp * (1 + wd)) := ⟨(1 + (1 + dp * (1 + wd))).toNat, by omega⟩
  have v1 : IntKind.u64.wrap 1 = 1 := IntWalk.u64_in _ (by omega)
  have v2 : IntKind.u64.wrap (h : Int) = (h : Int) := IntWalk.u64_in _ (by omega)
  have HH := Kp.mk hh
  have HN := Kp.mk hn
  have HK := Kp.mk hk
  have hh2 : h < n ∧ 1 < n := by omega
  have hnle : n ≤ 65536 := by omega
  have hdst : ∀ w' : World, Cf12Ok w' kc wd dp bt → Calls Tryz.prog 48 #[.agg #[.slice kc.pa 2 kc.pc, .slice (some ⟨kc.cg, kc.co, none⟩) 1 kc.cc, .int .i64 1, .slice kc.a0 1 kc.c0, .int .i64 1, .slice kc.a1 1 kc.c1], .int .i64 0] w' fun e w'' => e = .returned (.agg #[.int .i64 (h : Int), .int .i64 1]) ∧ Below w'.heap.size w' w'' := fun w' h' => by rw [hh]; exact dst_two12 w' h'
  have HDST := Kp.mk hdst
  clear hn hk hh hdst
  go_enter Tryz.func31, Tryz.ntmps31
  go_wp2_with fail
  refine (size_n12 n HN.out _ (HK.out.below (below_al (Below.refl _ _) _))).mono ?_
  rintro e w1 ⟨rfl, hb⟩
  have Q1 : Kp (w1.heap[w.heap.size]? = some (.cells #[.slice kc.pa 2 kc.pc, .slice (some ⟨kc.cg, kc.co, none⟩) 1 kc.cc, .int .i64 1, .slice kc.a0 1 kc.c0, .int .i64 1, .slice kc.a1 1 kc.c1] 31 (0, 0))) := ⟨blk_below (blk_new _ _) hb⟩
  have HB1 : Kp (Below w.heap.size w w1) := ⟨below_call (below_al (Below.refl _ _) _) hb⟩
  clear hb
  have q0 := cbk Q1.out 0 (.slice kc.pa 2 kc.pc) rfl
  have q1 := cbk Q1.out 1 (.slice (some ⟨kc.cg, kc.co, none⟩) 1 kc.cc) rfl
  have q2 := cbk Q1.out 2 (.int .i64 1) rfl
  have q3 := cbk Q1.out 3 (.slice kc.a0 1 kc.c0) rfl
  have q4 := cbk Q1.out 4 (.int .i64 1) rfl
  have q5 := cbk Q1.out 5 (.slice kc.a1 1 kc.c1) rfl
  have ql := blk_lt Q1.out
  go_wp2_with fail
  refine (memNew_any n hnle _).mono ?_
  rintro e w2 ⟨B, D, rfl, hM, hb, hB, hD⟩
  have Q2 : Kp (w2.heap[w.heap.size]? = some (.cells #[.slice kc.pa 2 kc.pc, .slice (some ⟨kc.cg, kc.co, none⟩) 1 kc.cc, .int .i64 1, .slice kc.a0 1 kc.c0, .int .i64 1, .slice kc.a1 1 kc.c1] 31 (0, 0))) := ⟨blk_below Q1.out hb⟩
  have HB2 : Kp (Below w.heap.size w w2) := ⟨below_call HB1.out hb⟩
  have hB0 : w.heap.size ≤ B := Nat.le_trans HB1.out.size hB
  have hD0 : w.heap.size ≤ D := Nat.le_trans HB1.out.size hD
  clear hb q0 q1 q2 q3 q4 q5 ql Q1 HB1 hB hD
  have q0 := cbk Q2.out 0 (.slice kc.pa 2 kc.pc) rfl
  have q1 := cbk Q2.out 1 (.slice (some ⟨kc.cg, kc.co, none⟩) 1 kc.cc) rfl
  have q2 := cbk Q2.out 2 (.int .i64 1) rfl
  have q3 := cbk Q2.out 3 (.slice kc.a0 1 kc.c0) rfl
  have q4 := cbk Q2.out 4 (.int .i64 1) rfl
  have q5 := cbk Q2.out 5 (.slice kc.a1 1 kc.c1) rfl
  have ql := blk_lt Q2.out
  go_wp2_with fail
  refine (bellNew_any 2 (by omega) _).mono ?_
  rintro e w3 ⟨BB, rfl, hL, hb, hBB⟩
  have Q3 : Kp (w3.heap[w.heap.size]? = some (.cells #[.slice kc.pa 2 kc.pc, .slice (some ⟨kc.cg, kc.co, none⟩) 1 kc.cc, .int .i64 1, .slice kc.a0 1 kc.c0, .int .i64 1, .slice kc.a1 1 kc.c1] 31 (0, 0))) := ⟨blk_below Q2.out hb⟩
  have HB3 : Kp (Below w.heap.size w w3) := ⟨below_call HB2.out hb⟩
  have HM3 : Kp (MemAt w3 B D (List.replicate n 0)) := ⟨hM.out.below hb⟩
  have HL3 := hL
  have hBB0 : w.heap.size ≤ BB := Nat.le_trans HB2.out.size hBB
  clear hb q0 q1 q2 q3 q4 q5 ql Q2 HB2 hM hL hBB
  have q0 := cbk Q3.out 0 (.slice kc.pa 2 kc.pc) rfl
  have q1 := cbk Q3.out 1 (.slice (some ⟨kc.cg, kc.co, none⟩) 1 kc.cc) rfl
  have q2 := cbk Q3.out 2 (.int .i64 1) rfl
  have q3 := cbk Q3.out 3 (.slice kc.a0 1 kc.c0) rfl
  have q4 := cbk Q3.out 4 (.int .i64 1) rfl
  have q5 := cbk Q3.out 5 (.slice kc.a1 1 kc.c1) rfl
  have ql := blk_lt Q3.out
  have cb6 : w3.cell? ⟨kc.cg, kc.co + 6, none⟩ = some (.int .u32 bt) := (HK.out.below HB3.out).boot
  have lcg : kc.cg < w3.heap.size := (HK.out.below HB3.out).lt
  go_wp2_with fail
  refine (src_two12 _ (HK.out.below HB3.out)).mono ?_
  rintro e w4 ⟨rfl, hb⟩
  have Q4 : Kp (w4.heap[w.heap.size]? = some (.cells #[.slice kc.pa 2 kc.pc, .slice (some ⟨kc.cg, kc.co, none⟩) 1 kc.cc, .int .i64 1, .slice kc.a0 1 kc.c0, .int .i64 1, .slice kc.a1 1 kc.c1] 31 (0, 0))) := ⟨blk_below Q3.out hb⟩
  have HB4 : Kp (Below w.heap.size w w4) := ⟨below_call HB3.out hb⟩
  have HM4 : Kp (MemAt w4 B D (List.replicate n 0)) := ⟨HM3.out.below hb⟩
  have HL4 : Kp (BAt w4 BB (List.replicate 2 false)) := ⟨HL3.out.below hb⟩
  clear hb q0 q1 q2 q3 q4 q5 ql Q3 HB3 HM3 HL3 cb6 lcg
  have q0 := cbk Q4.out 0 (.slice kc.pa 2 kc.pc) rfl
  have q1 := cbk Q4.out 1 (.slice (some ⟨kc.cg, kc.co, none⟩) 1 kc.cc) rfl
  have q2 := cbk Q4.out 2 (.int .i64 1) rfl
  have q3 := cbk Q4.out 3 (.slice kc.a0 1 kc.c0) rfl
  have q4 := cbk Q4.out 4 (.int .i64 1) rfl
  have q5 := cbk Q4.out 5 (.slice kc.a1 1 kc.c1) rfl
  have ql := blk_lt Q4.out
  go_wp2_with fail
  refine (mst12 B D _ 1 bt (by rw [List.length_replicate]; omega) _ HM4.out).mono ?_
  rintro e w5 ⟨rfl, hM5, hbut⟩
  have nD1 : w.heap.size ≠ D := ne_of_type Q4.out HM4.out.words (by decide)
  have nD2 : BB ≠ D := by
    obtain ⟨b9, hb9, _⟩ := HL4.out
    exact ne_of_type hb9 HM4.out.words (by decide)
  have Q5 : Kp (w5.heap[w.heap.size]? = some (.cells #[.slice kc.pa 2 kc.pc, .slice (some ⟨kc.cg, kc.co, none⟩) 1 kc.cc, .int .i64 1, .slice kc.a0 1 kc.c0, .int .i64 1, .slice kc.a1 1 kc.c1] 31 (0, 0))) := ⟨hbut.blk Q4.out (by simpa using nD1)⟩
  have HB5 : Kp (Below w.heap.size w w5) := ⟨hbut.below HB4.out (by simpa using hD0) HB4.out.size⟩
  have HM5 := Kp.mk hM5
  have HL5 : Kp (BAt w5 BB (List.replicate 2 false)) := ⟨HL4.out.but hbut (by simpa using nD2)⟩
  clear hbut hM5 q0 q1 q2 q3 q4 q5 ql Q4 HB4 HM4 HL4
  have q0 := cbk Q5.out 0 (.slice kc.pa 2 kc.pc) rfl
  have q1 := cbk Q5.out 1 (.slice (some ⟨kc.cg, kc.co, none⟩) 1 kc.cc) rfl
  have q2 := cbk Q5.out 2 (.int .i64 1) rfl
  have q3 := cbk Q5.out 3 (.slice kc.a0 1 kc.c0) rfl
  have q4 := cbk Q5.out 4 (.int .i64 1) rfl
  have q5 := cbk Q5.out 5 (.slice kc.a1 1 kc.c1) rfl
  have ql := blk_lt Q5.out
  go_wp2_with fail
  refine (HDST.out _ (HK.out.below HB5.out)).mono ?_
  rintro e w6 ⟨rfl, hb⟩
  have Q6 : Kp (w6.heap[w.heap.size]? = some (.cells #[.slice kc.pa 2 kc.pc, .slice (some ⟨kc.cg, kc.co, none⟩) 1 kc.cc, .int .i64 1, .slice kc.a0 1 kc.c0, .int .i64 1, .slice kc.a1 1 kc.c1] 31 (0, 0))) := ⟨blk_below Q5.out hb⟩
  have HB6 : Kp (Below w.heap.size w w6) := ⟨below_call HB5.out hb⟩
  have HM6 : Kp (MemAt w6 B D (stW (List.replicate n 0) (1 : Nat) bt)) := ⟨HM5.out.below hb⟩
  have HL6 : Kp (BAt w6 BB (List.replicate 2 false)) := ⟨HL5.out.below hb⟩
  clear hb q0 q1 q2 q3 q4 q5 ql Q5 HB5 HM5 HL5
  have q0 := cbk Q6.out 0 (.slice kc.pa 2 kc.pc) rfl
  have q1 := cbk Q6.out 1 (.slice (some ⟨kc.cg, kc.co, none⟩) 1 kc.cc) rfl
  have q2 := cbk Q6.out 2 (.int .i64 1) rfl
  have q3 := cbk Q6.out 3 (.slice kc.a0 1 kc.c0) rfl
  have q4 := cbk Q6.out 4 (.int .i64 1) rfl
  have q5 := cbk Q6.out 5 (.slice kc.a1 1 kc.c1) rfl
  have ql := blk_lt Q6.out
  go_wp2_with fail
  refine (mst12 B D _ h bt (by simp [stW]; omega) _ HM6.out).mono ?_
  rintro e w7 ⟨rfl, hM7, hbut⟩
  have Q7 : Kp (w7.heap[w.heap.size]? = some (.cells #[.slice kc.pa 2 kc.pc, .slice (some ⟨kc.cg, kc.co, none⟩) 1 kc.cc, .int .i64 1, .slice kc.a0 1 kc.c0, .int .i64 1, .slice kc.a1 1 kc.c1] 31 (0, 0))) := ⟨hbut.blk Q6.out (by simpa using nD1)⟩
  have HB7 : Kp (Below w.heap.size w w7) := ⟨hbut.below HB6.out (by simpa using hD0) HB6.out.size⟩
  have HM7 := Kp.mk hM7
  have HL7 : Kp (BAt w7 BB (List.replicate 2 false)) := ⟨HL6.out.but hbut (by simpa using nD2)⟩
  clear hbut hM7 q0 q1 q2 q3 q4 q5 ql Q6 HB6 HM6 HL6
  have q0 := cbk Q7.out 0 (.slice kc.pa 2 kc.pc) rfl
  have q1 := cbk Q7.out 1 (.slice (some ⟨kc.cg, kc.co, none⟩) 1 kc.cc) rfl
  have q2 := cbk Q7.out 2 (.int .i64 1) rfl
  have q3 := cbk Q7.out 3 (.slice kc.a0 1 kc.c0) rfl
  have q4 := cbk Q7.out 4 (.int .i64 1) rfl
  have q5 := cbk Q7.out 5 (.slice kc.a1 1 kc.c1) rfl
  have ql := blk_lt Q7.out
  go_wp2
  go_ret
  have e0 : (bt + ((0 : Nat) : Int)) % 4294967296 = bt := by omega
  refine ⟨w7.heap.size, B, D, BB, rfl, ⟨?_, fun _ => rfl, (fun e => by cases e), fun _ => rfl, (fun e => by cases e), ?_, HB7.out.size⟩, hBB0⟩
  · show _ = some (Obj.cells #[.slice kc.pa 2 kc.pc, .slice (some ⟨kc.cg, kc.co, none⟩) 1 kc.cc, .int .i64 1, .slice kc.a0 1 kc.c0, .int .i64 1, .slice kc.a1 1 kc.c1, .pointer (some ⟨B, 0, none⟩), .pointer (some ⟨BB, 0, none⟩), .pointer none, .pointer none, .int .u32 ((bt + ((0 : Nat) : Int)) % 4294967296), .int .u32 ((bt + ((0 : Nat) : Int)) % 4294967296), .int .i64 ((0 : Nat) : Int), .int .i64 ((0 : Nat) : Int), .int .i64 ((0 : Nat) : Int), .int .i64 ((0 : Nat) : Int), .int .i64 ((0 : Nat) : Int)] 77 (0, 0))
    rw [e0]
    exact blk_new _ _
  · have hm := HM7.out.al (Obj.cells #[.slice kc.pa 2 kc.pc, .slice (some ⟨kc.cg, kc.co, none⟩) 1 kc.cc, .int .i64 1, .slice kc.a0 1 kc.c0, .int .i64 1, .slice kc.a1 1 kc.c1, .pointer (some ⟨B, 0, none⟩), .pointer (some ⟨BB, 0, none⟩), .pointer none, .pointer none, .int .u32 bt, .int .u32 bt, .int .i64 0, .int .i64 0, .int .i64 0, .int .i64 0, .int .i64 0] 77)
    have hws : stW (stW (List.replicate n 0) ((1 : Nat) : Int) bt) (h : Int) bt = (rs0 wd dp bt n).ws := by rw [HH.out, show 1 + (1 + dp * (1 + wd)) = 2 + dp * (1 + wd) by omega]; rfl
    rw [hws] at hm
    exact { s1 := (fun e => by cases e), r1 := (fun e => by cases e), mem := hm, bell := HL7.out.below (below_al (Below.refl _ _) _), xl := rfl, words := rs0_words hi n, len := by have := HN.out; rw [← hws]; simp [stW]; exact this, sS := fun k hk => hk.elim, sR := fun k hk => hk.elim, ge := ⟨hB0, hD0, hBB0⟩, low := below_al HB7.out _ }
end
end Go.Proofs.YtmidcnfmphlneaaGreat

/- The play of layer 11: what holds between two acts; the start.; The play of layer 11: a step of either side, whatever stands; the law FourAtomic. -/
import Derived.Test.YtmidcnfmphlneaaGreatQ22
import Derived.Test.YtmidcnfmphlneaaGreatQ23
import Derived.Test.YtmidcnfmphlneaaGreatQ25
namespace Go.Proofs.YtmidcnfmphlneaaGreat
section
open Go.RowKit
set_option linter.unusedSimpArgs false
set_option linter.unusedVariables false
structure Good (p : Plc) (s : Sg) (c : Int → Int → Nat) : Prop where
  j : J p s c
  ws : Words s.ws
  w : s.w.pc ≤ 6 → WOk p s.w
  r : s.r.pc ≤ 5 → ROk p s.r
theorem cfOk_of {w : World} {cs : Array Value} {wd per : Int} (h : CfgAt w (.agg cs) (two4 wd per)) (h1 : 1 ≤ wd ∧ wd ≤ 16) (h2 : 0 ≤ per ∧ per ≤ 1048576) : ∃ kc : CfK, cs = #[.slice kc.pa 2 kc.pc, .slice (some ⟨kc.cg, kc.co, none⟩) 1 kc.cc, .int .i64 1, .slice kc.a0 1 kc.c0, .int .i64 1, .slice kc.a1 1 kc.c1] ∧ CfOk w kc wd per := by
  have h0 := h
  obtain ⟨ho, pa, pc, ca, cc, a0, c0, a1, c1, hv, b1, b2, b3, b4, hpr, hc, hw0, hw1⟩ := h
  obtain ⟨g, o, rfl, hg, hcc⟩ := hc.at (show 0 < 1 by decide)
  have e : cs = _ := Value.agg.inj hv
  refine ⟨⟨pa, pc, g, o, cc, a0, c0, a1, c1⟩, e, ?_⟩
  rw [e] at h0
  exact ⟨h0, hg, (hcc 3 (by show 3 < 1 * 7; decide)).trans rfl, h1, h2⟩
theorem cfOk_kc {w : World} {kc : CfK} {wd per : Int} (h : CfgAt w (.agg #[.slice kc.pa 2 kc.pc, .slice (some ⟨kc.cg, kc.co, none⟩) 1 kc.cc, .int .i64 1, .slice kc.a0 1 kc.c0, .int .i64 1, .slice kc.a1 1 kc.c1]) (two4 wd per)) (h1 : 1 ≤ wd ∧ wd ≤ 16) (h2 : 0 ≤ per ∧ per ≤ 1048576) : CfOk w kc wd per := by
  have h0 := h
  obtain ⟨ho, pa, pc, ca, cc, a0, c0, a1, c1, hv, b1, b2, b3, b4, hpr, hc, hw0, hw1⟩ := h
  obtain ⟨g, o, rfl, hg, hcc⟩ := hc.at (show 0 < 1 by decide)
  have e2 : some (Value.slice (some ⟨kc.cg, kc.co, none⟩) 1 kc.cc) = some (Value.slice (some ⟨g, o, none⟩) (two4 wd per).chans.length cc) := congrArg (fun x : Array Value => x[1]?) (Value.agg.inj hv)
  simp only [Option.some.injEq, Value.slice.injEq, Addr.mk.injEq, and_true] at e2
  exact ⟨h0, by rw [e2.1.1]; exact hg, by rw [e2.1.1, e2.1.2]; exact (hcc 3 (by show 3 < 1 * 7; decide)).trans rfl, h1, h2⟩
def sg0 (n : Nat) : Sg := ⟨List.replicate n 0, wIdle, rIdle, 0, 0, 0, 0, 0, 0, 0, 0⟩
theorem ldW_rep (n : Nat) (a : Int) : ldW (List.replicate n 0) a = 0 := by
  rw [ldW, List.getD_eq_getElem?_getD]
  by_cases h : a.toNat < n
  · rw [List.getElem?_eq_getElem (by simpa using h)]; simp
  · rw [List.getElem?_eq_none (by simp; omega)]; rfl
theorem good0 (p : Plc) (n : Nat) (ok : p.ok n) : Good p (sg0 n) (fun _ _ => 0) where
  j := {
    ok := by show p.ok (List.replicate n 0).length; rw [List.length_replicate]; exact ok
    inv := ⟨.inl rfl, .inl rfl, .inl rfl, .inl rfl, fun _ e => absurd e (by simp [sg0, wIdle, rIdle]), fun _ e => absurd e (by simp [sg0, wIdle, rIdle]), fun _ e => absurd e (by simp [sg0, wIdle, rIdle])⟩
    dat := fun e => absurd e (by simp [sg0, wIdle, rIdle])
    cnt := fun e => absurd e (by simp [sg0, wIdle, rIdle])
    cnt4 := fun e => absurd e (by simp [sg0, wIdle, rIdle])
    cnt5 := fun e => absurd e (by simp [sg0, wIdle, rIdle])
    stp := fun e => absurd e (by simp [sg0, wIdle, rIdle])
    one := fun e => absurd e (by simp [sg0, wIdle, rIdle])
    whole := fun x y _ _ _ => by
      show Holds p (List.replicate n 0) x y 0
      rw [Holds, if_pos rfl]
      exact ldW_rep _ _
    part := fun _ e => absurd e (by simp [sg0, wIdle, rIdle])
    six := fun e => absurd e (by simp [sg0, wIdle, rIdle])
    jM := rfl
    le1 := Nat.le_refl _
    le2 := Nat.le_refl _
    le3 := Nat.le_refl _
    idle := fun _ => rfl
    jA := fun e => absurd e (by simp [sg0, wIdle, rIdle])
    jC := fun _ e => absurd e (by simp [sg0, wIdle, rIdle])
    jD := fun _ e => absurd e (by simp [sg0, wIdle, rIdle])
    jE := fun _ e => absurd e (by simp [sg0, wIdle, rIdle])
    num := fun e => absurd e (by simp [sg0, wIdle, rIdle])
    jG := fun _ e => absurd e (by simp [sg0, wIdle, rIdle])
    jH := fun _ e => absurd e (by simp [sg0, wIdle, rIdle])
    lft := fun _ e => absurd e (by simp [sg0, wIdle, rIdle])
    rd4 := fun _ => rfl
    rd5 := fun e => absurd e (by simp [sg0, wIdle, rIdle])
    own := fun e => absurd e (by simp [sg0, wIdle, rIdle]) }
  ws := words_rep n
  w := fun e => absurd e (by simp [sg0, wIdle, rIdle])
  r := fun e => absurd e (by simp [sg0, wIdle, rIdle])
theorem boolsAt_of {w : World} {v : Value} (h : RdV w (.slice 1 .bool) v) : ∃ (a : Option Addr) (c : Nat) (l : List Bool), v = .slice a l.length c ∧ RowAt w 1 v l.length (l.map Value.bool) := by
  obtain ⟨l, h1, h2⟩ := rows_of (n := 0) (fun x : Bool => [Value.bool x]) (fun _ => True) (fun cs _ hr => by
    obtain ⟨x, hx⟩ := hr
    exact ⟨x, hx, trivial⟩) (fun _ => rfl) h
  have e : l.flatMap (fun x : Bool => [Value.bool x]) = l.map Value.bool := (List.map_eq_flatMap).symm
  rw [e] at h1
  obtain ⟨a, c, rfl, _, _⟩ := h1.shape
  exact ⟨a, c, l, rfl, h1⟩
end
section
open Go.RowKit
set_option linter.unusedSimpArgs false
set_option linter.unusedVariables false
def stepWW (p : Plc) (now : Int) (s : Sg) : Sg := stepW p now (if s.w.pc ≤ 6 then s else begW p s)
def stepRR (p : Plc) (now : Int) (s : Sg) : Sg := stepR p now (if s.r.pc ≤ 5 then s else begR s)
theorem Good.stepW {p : Plc} {s : Sg} {c : Int → Int → Nat} (h : Good p s c) (h16 : p.words ≤ 16) (now : Int) (h6 : s.w.pc ≤ 6) : ∃ c', Good p (Go.Proofs.YtmidcnfmphlneaaGreat.stepW p now s) c' := by
  obtain ⟨c', hj⟩ := h.j.w now h6
  exact ⟨c', hj, h.ws.w h16 now (h.w h6), fun _ => (h.w h6).next _, h.r⟩
theorem Good.begW {p : Plc} {s : Sg} {c : Int → Int → Nat} (h : Good p s c) (h7 : 7 ≤ s.w.pc) (hn : s.n + 1 < 4294967296) : Good p (Go.Proofs.YtmidcnfmphlneaaGreat.begW p s) c :=
  ⟨h.j.begW h7, h.ws, fun _ => wr0_ok p _ (by rw [msg_len]; omega) (msg_le _ _ h.j.ok.words) (msg_words _ _ hn), h.r⟩
theorem Good.stepR {p : Plc} {s : Sg} {c : Int → Int → Nat} (h : Good p s c) (now : Int) (h5 : s.r.pc ≤ 5) : Good p (Go.Proofs.YtmidcnfmphlneaaGreat.stepR p now s) c :=
  ⟨h.j.r now h5, h.ws.r (h.r h5), h.w, fun _ => (h.r h5).next h.ws h.j.ok.words⟩
theorem Good.begR {p : Plc} {s : Sg} {c : Int → Int → Nat} (h : Good p s c) (h6 : 6 ≤ s.r.pc) : Good p (Go.Proofs.YtmidcnfmphlneaaGreat.begR s) c :=
  ⟨h.j.begR h6, h.ws, h.w, fun _ => rdr0_ok p h.j.ok.words⟩
theorem play_write {zk : Nat} {zc : Array Value} {zt : TypeId} {w0 : World} {P B D W g dc R bs : Nat} {da : Option Addr} {dr : Nat} {kc : CfK} {p : Plc} {s : Sg} {wd per : Int} {c : Int → Int → Nat} (hk : CfOk w0 kc wd per) (hp : p = plc4 wd per) (hg : Good p s c) (hn : s.n + 1 < 4294967296) (now : Int) (w : World) (h : PlayAt zk zc zt w0 w P B D W g dc R bs da dr kc p s) :
    Calls Tryz.prog 16 #[.pointer (some ⟨P, 0, none⟩), .int .i64 now] w fun e w' => e = .returned (.bool true) ∧ ∃ (W g dc : Nat) (s' : Sg) (c' : Int → Int → Nat), PlayAt zk zc zt w0 w' P B D W g dc R bs da dr kc p s' ∧ Good p s' c' ∧ s'.n ≤ s.n + 1 ∧ s' = stepWW p now s := by
  have h16 : p.words ≤ 16 := by rw [hp]; exact hk.w1.2
  refine (write_any hk hp hg.j hg.ws hg.w hn now w h).mono ?_
  rintro e w' ⟨rfl, W', g', dc', h'⟩
  refine ⟨rfl, W', g', dc', stepWW p now s, ?_⟩
  unfold stepWW
  by_cases hpc : s.w.pc ≤ 6
  · rw [if_pos hpc] at h' ⊢
    obtain ⟨c', hj⟩ := hg.stepW h16 now hpc
    exact ⟨c', h', hj, Nat.le_succ _, rfl⟩
  · rw [if_neg hpc] at h' ⊢
    obtain ⟨c', hj⟩ := (hg.begW (by omega) hn).stepW h16 now (Nat.zero_le _)
    exact ⟨c', h', hj, Nat.le_refl _, rfl⟩
theorem play_read {zk : Nat} {zc : Array Value} {zt : TypeId} {w0 : World} {P B D W g dc R bs : Nat} {da : Option Addr} {dr : Nat} {kc : CfK} {p : Plc} {s : Sg} {wd per : Int} {c : Int → Int → Nat} (hk : CfOk w0 kc wd per) (hp : p = plc4 wd per) (hg : Good p s c) (hn : s.n < 4294967296) (now : Int) (hnow : 0 ≤ now ∧ now ≤ 1099511627776) (w : World) (h : PlayAt zk zc zt w0 w P B D W g dc R bs da dr kc p s) :
    Calls Tryz.prog 17 #[.pointer (some ⟨P, 0, none⟩), .int .i64 now] w fun e w' => e = .returned (.bool true) ∧ ∃ (R bs : Nat) (da : Option Addr) (dr : Nat) (s' : Sg), PlayAt zk zc zt w0 w' P B D W g dc R bs da dr kc p s' ∧ Good p s' c ∧ s'.n = s.n ∧ s' = stepRR p now s := by
  refine (read_any hk hp hg.j hg.ws hg.r hn now hnow w h).mono ?_
  rintro e w' ⟨rfl, R', bs2, da', dr', h'⟩
  refine ⟨rfl, R', bs2, da', dr', stepRR p now s, ?_⟩
  unfold stepRR
  by_cases hpc : s.r.pc ≤ 5
  · rw [if_pos hpc] at h' ⊢
    exact ⟨h', hg.stepR now hpc, rfl, rfl⟩
  · rw [if_neg hpc] at h' ⊢
    exact ⟨h', (hg.begR (by omega)).stepR now (Nat.zero_le _), rfl, rfl⟩
end
end Go.Proofs.YtmidcnfmphlneaaGreat

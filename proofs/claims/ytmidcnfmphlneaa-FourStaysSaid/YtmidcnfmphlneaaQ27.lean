/- The play of layer 11: a step of either side, whatever stands; the law FourAtomic. -/
import Derived.Test.YtmidcnfmphlneaaQ23
import Derived.Test.YtmidcnfmphlneaaQ25
import Derived.Test.YtmidcnfmphlneaaQ26
namespace Go.Proofs.Ytmidcnfmphlneaa
open Go.RowKit
set_option linter.unusedSimpArgs false
set_option linter.unusedVariables false
def stepWW (p : Plc) (now : Int) (s : Sg) : Sg := stepW p now (if s.w.pc ≤ 6 then s else begW p s)
def stepRR (p : Plc) (now : Int) (s : Sg) : Sg := stepR p now (if s.r.pc ≤ 5 then s else begR s)
theorem Good.stepW {p : Plc} {s : Sg} {c : Int → Int → Nat} (h : Good p s c) (h16 : p.words ≤ 16) (now : Int) (h6 : s.w.pc ≤ 6) : ∃ c', Good p (Go.Proofs.Ytmidcnfmphlneaa.stepW p now s) c' := by
  obtain ⟨c', hj⟩ := h.j.w now h6
  exact ⟨c', hj, h.ws.w h16 now (h.w h6), fun _ => (h.w h6).next _, h.r⟩
theorem Good.begW {p : Plc} {s : Sg} {c : Int → Int → Nat} (h : Good p s c) (h7 : 7 ≤ s.w.pc) (hn : s.n + 1 < 4294967296) : Good p (Go.Proofs.Ytmidcnfmphlneaa.begW p s) c :=
  ⟨h.j.begW h7, h.ws, fun _ => wr0_ok p _ (by rw [msg_len]; omega) (msg_le _ _ h.j.ok.words) (msg_words _ _ hn), h.r⟩
theorem Good.stepR {p : Plc} {s : Sg} {c : Int → Int → Nat} (h : Good p s c) (now : Int) (h5 : s.r.pc ≤ 5) : Good p (Go.Proofs.Ytmidcnfmphlneaa.stepR p now s) c :=
  ⟨h.j.r now h5, h.ws.r (h.r h5), h.w, fun _ => (h.r h5).next h.ws h.j.ok.words⟩
theorem Good.begR {p : Plc} {s : Sg} {c : Int → Int → Nat} (h : Good p s c) (h6 : 6 ≤ s.r.pc) : Good p (Go.Proofs.Ytmidcnfmphlneaa.begR s) c :=
  ⟨h.j.begR h6, h.ws, h.w, fun _ => rdr0_ok p h.j.ok.words⟩
theorem play_write {w0 : World} {P B D W g dc R bs : Nat} {da : Option Addr} {dr : Nat} {kc : CfK} {p : Plc} {s : Sg} {wd per : Int} {c : Int → Int → Nat} (hk : CfOk w0 kc wd per) (hp : p = plc4 wd per) (hg : Good p s c) (hn : s.n + 1 < 4294967296) (now : Int) (w : World) (h : PlayAt w0 w P B D W g dc R bs da dr kc p s) :
    Calls Try.prog 11 #[.pointer (some ⟨P, 0, none⟩), .int .i64 now] w fun e w' => e = .returned (.bool true) ∧ ∃ (W g dc : Nat) (s' : Sg) (c' : Int → Int → Nat), PlayAt w0 w' P B D W g dc R bs da dr kc p s' ∧ Good p s' c' ∧ s'.n ≤ s.n + 1 ∧ s' = stepWW p now s := by
  have h16 : p.words ≤ 16 := by rw [hp]; exact hk.w1.2
  refine (write_any hk hp hg.j hg.ws hg.w hn now w h).mono ?_
  rintro e w' ⟨rfl, W', g', dc', h'⟩
  refine ⟨rfl, W', g', dc', stepWW p now s, ?_⟩
  unfold stepWW
  by_cases hpc : s.w.pc ≤ 6
  · rw [if_pos hpc] at h' ⊢
    obtain ⟨c', hj⟩ := hg.stepW h16 now hpc
    exact ⟨c', h', hj, Nat.le_succ _, rfl⟩
  · rw [if_neg hpc] at h' ⊢
    obtain ⟨c', hj⟩ := (hg.begW (by omega) hn).stepW h16 now (Nat.zero_le _)
    exact ⟨c', h', hj, Nat.le_refl _, rfl⟩
theorem play_read {w0 : World} {P B D W g dc R bs : Nat} {da : Option Addr} {dr : Nat} {kc : CfK} {p : Plc} {s : Sg} {wd per : Int} {c : Int → Int → Nat} (hk : CfOk w0 kc wd per) (hp : p = plc4 wd per) (hg : Good p s c) (hn : s.n < 4294967296) (now : Int) (hnow : 0 ≤ now ∧ now ≤ 1099511627776) (w : World) (h : PlayAt w0 w P B D W g dc R bs da dr kc p s) :
    Calls Try.prog 12 #[.pointer (some ⟨P, 0, none⟩), .int .i64 now] w fun e w' => e = .returned (.bool true) ∧ ∃ (R bs : Nat) (da : Option Addr) (dr : Nat) (s' : Sg), PlayAt w0 w' P B D W g dc R bs da dr kc p s' ∧ Good p s' c ∧ s'.n = s.n ∧ s' = stepRR p now s := by
  refine (read_any hk hp hg.j hg.ws hg.r hn now hnow w h).mono ?_
  rintro e w' ⟨rfl, R', bs2, da', dr', h'⟩
  refine ⟨rfl, R', bs2, da', dr', stepRR p now s, ?_⟩
  unfold stepRR
  by_cases hpc : s.r.pc ≤ 5
  · rw [if_pos hpc] at h' ⊢
    exact ⟨h', hg.stepR now hpc, rfl, rfl⟩
  · rw [if_neg hpc] at h' ⊢
    exact ⟨h', (hg.begR (by omega)).stepR now (Nat.zero_le _), rfl, rfl⟩
end Go.Proofs.Ytmidcnfmphlneaa

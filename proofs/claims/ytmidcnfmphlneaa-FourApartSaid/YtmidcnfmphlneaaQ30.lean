/- The law FourApart: the buffer that is being filled is never the one that is being read. -/
import Derived.Test.YtmidcnfmphlneaaQ26
namespace Go.Proofs.Ytmidcnfmphlneaa
open Go.RowKit
set_option linter.unusedSimpArgs false
set_option linter.unusedVariables false
structure Apt (p : Plc) (ws : List Int) (s : Wr) (r : Rdr) (fi re le : Int) (k wn : Nat) : Prop where
  ok : p.ok ws.length
  pw : p.words = wn
  inv : Inv p ws s r
  wd : Words ws
  okw : s.pc ≤ 6 → WOk p s
  okr : r.pc ≤ 5 → ROk p r
  full : s.pc ≤ 6 → s.data.length = wn
  fi3 : fi = if 3 ≤ s.pc ∧ s.pc ≤ 4 then 1 + (2 * s.pair + s.index) else 0
  re3 : re = if 4 ≤ r.pc ∧ r.pc ≤ 5 then 1 + (2 * r.pair + r.index) else 0
  le3 : s.pc = 3 → le = wn + 1
  le4 : s.pc = 4 → le = wn - s.i
  le0 : ¬ (3 ≤ s.pc ∧ s.pc ≤ 4) → -(k : Int) ≤ le ∧ le ≤ 0
theorem Apt.apart {p : Plc} {ws : List Int} {s : Wr} {r : Rdr} {fi re le : Int} {k wn : Nat} (h : Apt p ws s r fi re le k wn) : ¬ (0 < fi ∧ fi = re) := by
  rintro ⟨h1, h2⟩
  have a := h.fi3
  have b := h.re3
  split at a
  · split at b
    · refine h.inv.apart (by omega) (by omega) (by omega) (by omega) ?_
      rcases h.inv.wp with e1 | e1 <;> rcases h.inv.wi with e2 | e2 <;> rcases h.inv.rp with e3 | e3 <;> rcases h.inv.ri with e4 | e4 <;> rw [e1, e2] at a <;> rw [e3, e4] at b <;> first | exact ⟨e1.trans e3.symm, e2.trans e4.symm⟩ | omega
    · omega
  · omega
theorem Apt.new {p : Plc} {ws : List Int} {s : Wr} {r : Rdr} {fi re le : Int} {k wn : Nat} (h : Apt p ws s r fi re le k wn) (h7 : 7 ≤ s.pc) (h1 : 1 ≤ wn) : Apt p ws (wr0 (List.replicate wn 0)) r fi re le k wn where
  ok := h.ok
  pw := h.pw
  inv := ⟨.inl rfl, .inl rfl, h.inv.rp, h.inv.ri, h.inv.tell, fun c1 => absurd c1 (by simp [wr0]), fun c1 => absurd c1 (by simp [wr0])⟩
  wd := h.wd
  okw := fun _ => wr0_ok p _ (by simp; omega) (by simp [h.pw]) (words_rep wn)
  okr := h.okr
  full := fun _ => by simp [wr0]
  fi3 := by rw [h.fi3, if_neg (by omega), if_neg (by simp [wr0])]
  re3 := h.re3
  le3 := fun e => absurd e (by simp [wr0])
  le4 := fun e => absurd e (by simp [wr0])
  le0 := fun _ => h.le0 (by omega)
theorem Apt.newR {p : Plc} {ws : List Int} {s : Wr} {r : Rdr} {fi re le : Int} {k wn : Nat} (h : Apt p ws s r fi re le k wn) (h6 : 6 ≤ r.pc) (h1 : 1 ≤ wn) : Apt p ws s rdr0 fi re le k wn where
  ok := h.ok
  pw := h.pw
  inv := ⟨h.inv.wp, h.inv.wi, .inl rfl, .inl rfl, fun c1 => absurd c1 (by simp [rdr0]), h.inv.slot, fun _ _ c1 => absurd c1 (by simp [rdr0])⟩
  wd := h.wd
  okw := h.okw
  okr := fun _ => rdr0_ok p (by rw [h.pw]; omega)
  full := h.full
  fi3 := h.fi3
  re3 := by rw [h.re3, if_neg (by omega), if_neg (by simp [rdr0])]
  le3 := h.le3
  le4 := h.le4
  le0 := h.le0
theorem Apt.wstep {p : Plc} {ws : List Int} {s : Wr} {r : Rdr} {fi re le : Int} {k wn : Nat} (now : Int) (h16 : p.words ≤ 16) (h : Apt p ws s r fi re le k wn) (h6 : s.pc ≤ 6) :
    (0 < (wDid p ws s).buffer → (wDid p ws s).done = false ∧ (wNext p ws s).pc ≤ 6 ∧ Apt p (wMem p ws now s) (wNext p ws s) r (wDid p ws s).buffer re ((wn : Int) + 1) (k + 1) wn) ∧
    (¬ 0 < (wDid p ws s).buffer → -(k : Int) ≤ le ∧ le ≤ wn + 1 ∧ (if (wDid p ws s).done = true then 7 ≤ (wNext p ws s).pc else (wNext p ws s).pc ≤ 6) ∧ Apt p (wMem p ws now s) (wNext p ws s) r (if le - 1 ≤ 0 then 0 else fi) re (le - 1) (k + 1) wn) := by
  have hW := h.okw h6
  have hI := h.inv.wstep now h.ok hW.dw hW.i4
  have hOk : p.ok (wMem p ws now s).length := by rw [wMem_len]; exact h.ok
  have hWd := h.wd.w h16 now hW
  have hWn := hW.next ws
  have hf := h.full h6
  have hpair : (wNext p ws s).pc = 3 ∨ (wNext p ws s).pc = 4 → True := fun _ => trivial
  have hfi := h.fi3
  have hl3 := h.le3
  have hl4 := h.le4
  have hl0 := h.le0
  have hi3 := hW.i3
  have hi4 := hW.i4
  obtain ⟨pc, data, pair, index, i, marked⟩ := s
  simp only at h6 hf hfi hl3 hl4 hl0 hi3 hi4
  have hre := h.re3
  rcases or7 _ h6 with e | e | e | e | e | e | e <;> subst e
  · have := hl0 (by omega)
    exact ⟨fun e => absurd e (by simp [wDid]), fun _ => ⟨by omega, by omega, by simp [wDid, wNext], { ok := hOk, pw := h.pw, inv := hI, wd := hWd, okw := fun _ => hWn, okr := h.okr, full := fun _ => hf, fi3 := by rw [if_pos (by omega)]; exact (if_neg (by simp [wNext])).symm, re3 := hre, le3 := fun e => absurd e (by simp [wNext]), le4 := fun e => absurd e (by simp [wNext]), le0 := fun _ => by omega }⟩⟩
  · have := hl0 (by omega)
    exact ⟨fun e => absurd e (by simp [wDid]), fun _ => ⟨by omega, by omega, by simp [wDid, wNext], { ok := hOk, pw := h.pw, inv := hI, wd := hWd, okw := fun _ => hWn, okr := h.okr, full := fun _ => hf, fi3 := by rw [if_pos (by omega)]; exact (if_neg (by simp [wNext])).symm, re3 := hre, le3 := fun e => absurd e (by simp [wNext]), le4 := fun e => absurd e (by simp [wNext]), le0 := fun _ => by omega }⟩⟩
  · have hb : 0 < 1 + (2 * pair + index) := by rcases hW.hx with e | e <;> rcases hW.hy with e2 | e2 <;> simp only at e e2 <;> rw [e, e2] <;> decide
    exact ⟨fun _ => ⟨rfl, by simp [wNext], { ok := hOk, pw := h.pw, inv := hI, wd := hWd, okw := fun _ => hWn, okr := h.okr, full := fun _ => hf, fi3 := (if_pos (by simp [wNext])).symm, re3 := hre, le3 := fun _ => rfl, le4 := fun e => absurd e (by simp [wNext]), le0 := fun e => absurd e (by simp [wNext]) }⟩, fun e => absurd hb e⟩
  · have h1 := hl3 rfl
    have h2 := hi3 (by omega)
    have h0 := hW.h0
    simp only at h0
    exact ⟨fun e => absurd e (by simp [wDid]), fun _ => ⟨by omega, by omega, by simp [wDid, wNext], { ok := hOk, pw := h.pw, inv := hI, wd := hWd, okw := fun _ => hWn, okr := h.okr, full := fun _ => hf, fi3 := by rw [if_neg (by omega), hfi, if_pos (by omega)]; exact (if_pos (by simp [wNext])).symm, re3 := hre, le3 := fun e => absurd e (by simp [wNext]), le4 := fun _ => by show le - 1 = (wn : Int) - (i : Nat); omega, le0 := fun e => absurd e (by simp [wNext]) }⟩⟩
  · have h1 := hl4 rfl
    have h2 := hi4 rfl
    by_cases hlast : i + 1 < data.length
    · have e1 : wNext p ws ⟨4, data, pair, index, i, marked⟩ = ⟨4, data, pair, index, i + 1, marked⟩ := by simp only [wNext, if_pos hlast]
      rw [e1] at hI hWn ⊢
      exact ⟨fun e => absurd e (by simp [wDid]), fun _ => ⟨by omega, by omega, by simp [wDid], { ok := hOk, pw := h.pw, inv := hI, wd := hWd, okw := fun _ => hWn, okr := h.okr, full := fun _ => hf, fi3 := by rw [if_neg (by omega), hfi, if_pos (by omega)]; first | done | exact (if_pos (by simp)).symm, re3 := hre, le3 := fun e => absurd e (by simp), le4 := fun _ => by show le - 1 = (wn : Int) - ((i + 1 : Nat) : Int); omega, le0 := fun e => absurd e (by simp) }⟩⟩
    · have e1 : wNext p ws ⟨4, data, pair, index, i, marked⟩ = ⟨5, data, pair, index, i + 1, marked⟩ := by simp only [wNext, if_neg hlast]
      rw [e1] at hI hWn ⊢
      exact ⟨fun e => absurd e (by simp [wDid]), fun _ => ⟨by omega, by omega, by simp [wDid], { ok := hOk, pw := h.pw, inv := hI, wd := hWd, okw := fun _ => hWn, okr := h.okr, full := fun _ => hf, fi3 := by rw [if_pos (by omega)]; first | done | exact (if_neg (by simp)).symm, re3 := hre, le3 := fun e => absurd e (by simp), le4 := fun e => absurd e (by simp), le0 := fun _ => by omega }⟩⟩
  · have := hl0 (by omega)
    exact ⟨fun e => absurd e (by simp [wDid]), fun _ => ⟨by omega, by omega, by simp [wDid, wNext], { ok := hOk, pw := h.pw, inv := hI, wd := hWd, okw := fun _ => hWn, okr := h.okr, full := fun _ => hf, fi3 := by rw [if_pos (by omega)]; exact (if_neg (by simp [wNext])).symm, re3 := hre, le3 := fun e => absurd e (by simp [wNext]), le4 := fun e => absurd e (by simp [wNext]), le0 := fun _ => by omega }⟩⟩
  · have := hl0 (by omega)
    exact ⟨fun e => absurd e (by simp [wDid]), fun _ => ⟨by omega, by omega, by simp [wDid, wNext], { ok := hOk, pw := h.pw, inv := hI, wd := hWd, okw := fun _ => hWn, okr := h.okr, full := fun e => absurd e (by simp [wNext]), fi3 := by rw [if_pos (by omega)]; exact (if_neg (by simp [wNext])).symm, re3 := hre, le3 := fun e => absurd e (by simp [wNext]), le4 := fun e => absurd e (by simp [wNext]), le0 := fun _ => by omega }⟩⟩
theorem Apt.rstep {p : Plc} {ws : List Int} {s : Wr} {r : Rdr} {fi re le : Int} {k wn : Nat} (now : Int) (h1 : 1 ≤ wn) (h : Apt p ws s r fi re le k wn) (h5 : r.pc ≤ 5) :
    ((rDid p ws now r).done = false → (rNext p ws r).pc ≤ 5 ∧ Apt p (rMem p ws r) s (rNext p ws r) fi (if 0 < (rDid p ws now r).buffer then (rDid p ws now r).buffer else re) le (k + 1) wn) ∧
    ((rDid p ws now r).done = true → (rNext p ws r).pc = 6 ∧ Apt p (rMem p ws r) s (rNext p ws r) fi 0 le (k + 1) wn) := by
  have hR := h.okr h5
  have hI := h.inv.rstep h.ok
  have hOk : p.ok (rMem p ws r).length := by rw [rMem_len]; exact h.ok
  have hWd := h.wd.r hR
  have hRn := hR.next h.wd (by rw [h.pw]; omega)
  have hre := h.re3
  have hl0 : ¬ (3 ≤ s.pc ∧ s.pc ≤ 4) → -((k + 1 : Nat) : Int) ≤ le ∧ le ≤ 0 := fun e => by have := h.le0 e; omega
  have hmk : ∀ (re' : Int), (re' = if 4 ≤ (rNext p ws r).pc ∧ (rNext p ws r).pc ≤ 5 then 1 + (2 * (rNext p ws r).pair + (rNext p ws r).index) else 0) → Apt p (rMem p ws r) s (rNext p ws r) fi re' le (k + 1) wn := fun re' he =>
    { ok := hOk, pw := h.pw, inv := hI, wd := hWd, okw := h.okw, okr := fun _ => hRn, full := h.full, fi3 := h.fi3, re3 := he, le3 := h.le3, le4 := h.le4, le0 := hl0 }
  clear hOk hWd hI hRn hl0
  have hb : 0 < 1 + (2 * r.pair + r.index) := by rcases hR.hx with e | e <;> rcases hR.hy with e2 | e2 <;> rw [e, e2] <;> decide
  obtain ⟨pc, pair, index, left, stamp, data⟩ := r
  simp only at h5 hre hb
  rcases or6 _ h5 with e | e | e | e | e | e <;> subst e
  · exact ⟨fun _ => ⟨by simp [rNext], hmk _ (by simp [rDid, rNext, hre])⟩, fun e => absurd e (by simp [rDid])⟩
  · exact ⟨fun _ => ⟨by simp [rNext], hmk _ (by simp [rDid, rNext, hre])⟩, fun e => absurd e (by simp [rDid])⟩
  · exact ⟨fun _ => ⟨by simp [rNext], hmk _ (by simp [rDid, rNext, hre])⟩, fun e => absurd e (by simp [rDid])⟩
  · by_cases hz : ldW ws (p.buf pair index) = 0
    · refine ⟨fun e => absurd e (by simp [rDid, hz]), fun _ => ⟨by simp [rNext, hz], hmk _ (by simp [rNext, hz])⟩⟩
    · refine ⟨fun _ => ⟨by simp [rNext, hz], hmk _ ?_⟩, fun e => absurd e (by simp [rDid, hz])⟩
      simp only [rDid, rNext, if_neg hz]
      rw [if_pos hb, if_pos (by omega)]
  · exact ⟨fun _ => ⟨by simp [rNext], hmk _ (by simp [rDid, rNext, hre])⟩, fun e => absurd e (by simp [rDid])⟩
  · by_cases hl : data.length + 1 < left
    · exact ⟨fun _ => ⟨by simp [rNext, hl], hmk _ (by simp [rDid, rNext, hre, hl])⟩, fun e => absurd e (by simp [rDid, hl])⟩
    · exact ⟨fun e => absurd e (by simp [rDid, hl]), fun _ => ⟨by simp [rNext, hl], hmk _ (by simp [rNext, hl])⟩⟩
set_option maxRecDepth 100000 in
set_option maxHeartbeats 8000000 in
theorem fourApart_main (wv : Int) (hwv : 0 ≤ wv ∧ wv ≤ 255) (a1 : Option Addr) (L c1 : Nat) (bs : List Bool) (hL : bs.length = L) (w : World) (hrow : RowAt w 1 (.slice a1 L c1) L (bs.map Value.bool)) :
    Calls Try.prog 5 #[.int .u8 wv, .slice a1 L c1] w fun e w' => e = .returned (.bool true) ∧ Below w.heap.size w w' := by
  have HR := Kp.mk hrow
  have HLL := Kp.mk hL
  have hcap : L ≤ maxLen := by obtain ⟨_, _, e, q1, q2⟩ := hrow.shape; exact Nat.le_trans q1 q2
  unfold maxLen at hcap
  clear hrow hL
  obtain ⟨wd, hwdd⟩ : ∃ wd, 1 + wv % 4 = wd := ⟨_, rfl⟩
  have hwd : 1 ≤ wd ∧ wd ≤ 16 := by omega
  have hwd4 : wd ≤ 4 := by omega
  have v1 : IntKind.i64.wrap wv = wv := IntWalk.i64_in _ (by omega)
  have v2 : Int.tmod wv 4 = wd - 1 := by rw [Int.tmod_eq_emod_of_nonneg (by omega)]; omega
  have v3 : IntKind.i64.wrap (wd - 1) = wd - 1 := IntWalk.i64_in _ (by omega)
  have v4 : 1 + (wd - 1) = wd := by omega
  have v5 : IntKind.i64.wrap wd = wd := IntWalk.i64_in _ (by omega)
  obtain ⟨nn, hnn⟩ : ∃ nn : Nat, (nn : Int) = 5 + 4 * (2 + wd) := ⟨(5 + 4 * (2 + wd)).toNat, by omega⟩
  have hnle : nn ≤ 65536 := by omega
  have HNN := Kp.mk hnn
  obtain ⟨wn, rfl⟩ : ∃ wn : Nat, wd = (wn : Int) := ⟨wd.toNat, by omega⟩
  have hwn : 1 ≤ wn ∧ wn ≤ 4 := by omega
  clear hwdd
  go_enter Try.func5, Try.ntmps5
  have HB0 : Kp (Below w.heap.size w w) := ⟨Below.refl _ _⟩
  go_wp2_with fail
  refine (wakes4_any _).mono ?_
  rintro e w1 ⟨rfl, hb⟩
  have HB1 : Kp (Below w.heap.size w w1) := ⟨below_call HB0.out hb⟩
  clear HB0 hb
  by_cases hl1 : 600 < L
  · have n1 : (600 : Int) < (L : Int) := by omega
    go_wp2
    go_ret
    exact ⟨rfl, HB1.out⟩
  have n1 : ¬ (600 : Int) < (L : Int) := by omega
  go_wp2_with fail
  refine (two4_any (wn : Int) 5 _ (two4_ok (wn : Int) 5 hwd (by omega))).mono ?_
  rintro e w2 ⟨cs, rfl, hC, hb⟩
  have HB2 : Kp (Below w.heap.size w w2) := ⟨below_call HB1.out hb⟩
  have C2 : Kp (CfgAt w2 (.agg cs) (two4 (wn : Int) 5)) := ⟨hC⟩
  clear HB1 hb
  obtain ⟨kc, rfl, hKC⟩ := cfOk_of hC hwd (per := 5) (by omega)
  clear hC hKC
  have hsz := size_two (.agg #[.slice kc.pa 2 kc.pc, .slice (some ⟨kc.cg, kc.co, none⟩) 1 kc.cc, .int .i64 1, .slice kc.a0 1 kc.c0, .int .i64 1, .slice kc.a1 1 kc.c1]) (wn : Int) 5 hwd (by omega) (w2.alloc (.cells #[.slice kc.pa 2 kc.pc, .slice (some ⟨kc.cg, kc.co, none⟩) 1 kc.cc, .int .i64 1, .slice kc.a0 1 kc.c0, .int .i64 1, .slice kc.a1 1 kc.c1] 31)) ((C2.out.below (below_al (Below.refl _ _) _)))
  rw [← hnn] at hsz
  clear hnn
  go_wp2_with fail
  refine (hsz).mono ?_
  rintro e w3 ⟨rfl, hb⟩
  have q3 : Kp (w3.heap[w2.heap.size]? = some (.cells #[.slice kc.pa 2 kc.pc, .slice (some ⟨kc.cg, kc.co, none⟩) 1 kc.cc, .int .i64 1, .slice kc.a0 1 kc.c0, .int .i64 1, .slice kc.a1 1 kc.c1] 31 (0, 0))) := ⟨blk_below (blk_new _ _) hb⟩
  have HB3 : Kp (Below w.heap.size w w3) := ⟨below_call (below_al HB2.out _) hb⟩
  have C3 : Kp (CfgAt w3 (.agg #[.slice kc.pa 2 kc.pc, .slice (some ⟨kc.cg, kc.co, none⟩) 1 kc.cc, .int .i64 1, .slice kc.a0 1 kc.c0, .int .i64 1, .slice kc.a1 1 kc.c1]) (two4 (wn : Int) 5)) := ⟨(C2.out.below (below_al (Below.refl _ _) _)).below hb⟩
  clear HB2 C2 hb
  have qc0 : w3.cell? ⟨w2.heap.size, 0, none⟩ = some (.slice kc.pa 2 kc.pc) := (cell_blk q3.out 0).trans rfl
  have qc1 : w3.cell? ⟨w2.heap.size, 1, none⟩ = some (.slice (some ⟨kc.cg, kc.co, none⟩) 1 kc.cc) := (cell_blk q3.out 1).trans rfl
  have qc2 : w3.cell? ⟨w2.heap.size, 2, none⟩ = some (.int .i64 1) := (cell_blk q3.out 2).trans rfl
  have qc3 : w3.cell? ⟨w2.heap.size, 3, none⟩ = some (.slice kc.a0 1 kc.c0) := (cell_blk q3.out 3).trans rfl
  have qc4 : w3.cell? ⟨w2.heap.size, 4, none⟩ = some (.int .i64 1) := (cell_blk q3.out 4).trans rfl
  have qc5 : w3.cell? ⟨w2.heap.size, 5, none⟩ = some (.slice kc.a1 1 kc.c1) := (cell_blk q3.out 5).trans rfl
  have ql := blk_lt q3.out
  clear hsz
  go_wp2_with fail
  refine (memNew_any nn hnle _).mono ?_
  rintro e w4 ⟨B, D, rfl, hM, hb, hB, hD⟩
  have qd0 : w4.cell? ⟨w2.heap.size, 0, none⟩ = some (.slice kc.pa 2 kc.pc) := ((hb.cell (p := ⟨w2.heap.size, 0, none⟩) (blk_lt q3.out)).trans (cell_blk q3.out 0)).trans rfl
  have qd1 : w4.cell? ⟨w2.heap.size, 1, none⟩ = some (.slice (some ⟨kc.cg, kc.co, none⟩) 1 kc.cc) := ((hb.cell (p := ⟨w2.heap.size, 1, none⟩) (blk_lt q3.out)).trans (cell_blk q3.out 1)).trans rfl
  have qd2 : w4.cell? ⟨w2.heap.size, 2, none⟩ = some (.int .i64 1) := ((hb.cell (p := ⟨w2.heap.size, 2, none⟩) (blk_lt q3.out)).trans (cell_blk q3.out 2)).trans rfl
  have qd3 : w4.cell? ⟨w2.heap.size, 3, none⟩ = some (.slice kc.a0 1 kc.c0) := ((hb.cell (p := ⟨w2.heap.size, 3, none⟩) (blk_lt q3.out)).trans (cell_blk q3.out 3)).trans rfl
  have qd4 : w4.cell? ⟨w2.heap.size, 4, none⟩ = some (.int .i64 1) := ((hb.cell (p := ⟨w2.heap.size, 4, none⟩) (blk_lt q3.out)).trans (cell_blk q3.out 4)).trans rfl
  have qd5 : w4.cell? ⟨w2.heap.size, 5, none⟩ = some (.slice kc.a1 1 kc.c1) := ((hb.cell (p := ⟨w2.heap.size, 5, none⟩) (blk_lt q3.out)).trans (cell_blk q3.out 5)).trans rfl
  have qe : w2.heap.size < w4.heap.size := Nat.lt_of_lt_of_le (blk_lt q3.out) hb.size
  have lB := blk_lt hM.out.head
  have lD := blk_lt hM.out.words
  have HM := Kp.mk hM.out
  have HB4 := Kp.mk hb
  clear hM hb qc0 qc1 qc2 qc3 qc4 qc5 ql
  have HD0 : Kp (Duo w4 [] w3.heap.size B D 0 0 0 0 0 none 0 (plc4 (wn : Int) 5) (List.replicate nn 0) wIdle rIdle) := ⟨Duo.new HM.out ⟨hB, hD⟩ (by simp) (by decide) (by decide)⟩
  have HA0 : Kp (Apt (plc4 (wn : Int) 5) (List.replicate nn 0) wIdle rIdle 0 0 0 0 wn) := ⟨{ ok := by rw [List.length_replicate]; exact plc4_good _ 5 nn hwd HNN.out, pw := rfl, inv := (good0 (plc4 (wn : Int) 5) nn (plc4_good _ 5 nn hwd HNN.out)).j.inv, wd := words_rep nn, okw := fun e => absurd e (by decide), okr := fun e => absurd e (by decide), full := fun e => absurd e (by decide), fi3 := rfl, re3 := rfl, le3 := fun e => absurd e (by decide), le4 := fun e => absurd e (by decide), le0 := fun _ => by omega }⟩
  have HCF : Kp (CfOk w3 kc (wn : Int) 5) := ⟨cfOk_kc C3.out hwd (by omega)⟩
  have HROW : Kp (RowAt w3 1 (.slice a1 L c1) L (bs.map Value.bool)) := ⟨HR.out.below HB3.out⟩
  have cw : w4.cell? ⟨kc.cg, kc.co + 3, none⟩ = some (.int .i64 (wn : Int)) := (HB4.out.cell (p := ⟨kc.cg, kc.co + 3, none⟩) HCF.out.lt).trans HCF.out.words
  have lcg : kc.cg < w4.heap.size := by have := HB4.out.size; have := HCF.out.lt; omega
  have hlow4 : (plc4 (wn : Int) 5).low := plc4_low _ 5 hwd
  have hmk0 := fun w => run_make_row' (P := Try.prog) 46 41 (.int .u32 0) 4 Try.underlying46 Try.infoU32 rfl .i64 .i64 wn (by omega) (by omega) w
  have hre : (madeCells #[Value.int .u32 0] wn) = (u32s (List.replicate wn 0)).toArray := by rw [madeCells_rep]; simp [u32s]
  rw [hre] at hmk0
  have HMK := Kp.mk hmk0
  have lq3 := blk_lt q3.out
  have HW0 : Kp (World.heap w3 = World.heap w3) := ⟨rfl⟩
  clear hre hmk0
  go_wp2_with fail
  go_loopw [8, 9, 10, 11, 12, 47] (fun vw vr vf ve vl i wr => ∃ (k W g dc R bs : Nat) (da : Option Addr) (dr : Nat) (ws : List Int) (s : Wr) (r : Rdr) (fi re le : Int), k ≤ L ∧ i = .int .i64 k ∧ vw = (if s.pc ≤ 6 then Value.pointer (some ⟨W, 0, none⟩) else Value.pointer none) ∧ vr = (if r.pc ≤ 5 then Value.pointer (some ⟨R, 0, none⟩) else Value.pointer none) ∧ vf = .int .i64 fi ∧ ve = .int .i64 re ∧ vl = .int .i64 le ∧ Kp (Duo wr [] w3.heap.size B D W g dc R bs da dr (plc4 (wn : Int) 5) ws s r) ∧ Kp (Below w3.heap.size w3 wr) ∧ Kp (Apt (plc4 (wn : Int) 5) ws s r fi re le k wn)) (fun vw vr vf ve vl i wr => L - (intOf i).toNat)
  case atStart => exact ⟨0, 0, 0, 0, 0, 0, none, 0, _, wIdle, rIdle, 0, 0, 0, Nat.zero_le _, rfl, rfl, rfl, rfl, rfl, rfl, HD0, HB4, HA0⟩
  case round =>
    obtain ⟨k, W, g, dc, R, bs', da, dr, ws, s, r, fi, re, le, hk, rfl, hvw, hvr, rfl, rfl, rfl, HD, HB, HA⟩ := hrel
    clear HD0 HA0 cw lcg qd0 qd1 qd2 qd3 qd4 qd5 qe lB lD
    by_cases hlt : k < L
    · obtain ⟨gb, ob, hab, hgb, hcb⟩ := HROW.out.at (by omega)
      subst hab
      have lwr := HB.out.size
      have ck : wr.cell? ⟨gb, ob + k, none⟩ = some (.bool (bs.getD k false)) := (HB.out.cell (p := ⟨gb, ob + k, none⟩) hgb).trans ((hcb k (by omega)).trans (by have := HLL.out; rw [List.getElem?_map, List.getElem?_eq_getElem (by omega), List.getD_eq_getElem?_getD, List.getElem?_eq_getElem (by omega)]; rfl))
      have lgb : gb < wr.heap.size := by omega
      have hz : (0 : Int) ≤ (k : Int) := by omega
      have hk600 : k < 601 := by omega
      clear hcb
      cases hb : bs.getD k false with
      | true =>
        rw [hb] at ck
        clear hb
        by_cases hpc : s.pc ≤ 6
        · rw [if_pos hpc] at hvw
          subst hvw
          have HVR := Kp.mk hvr
          clear hvr
          have hp6 := hpc
          obtain ⟨d, hd⟩ : ∃ d, wDid (plc4 (wn : Int) 5) ws s = d := ⟨_, rfl⟩
          have hTo := HA.out.wstep (k : Int) (show (wn : Int) ≤ 16 by omega) hp6
          have hin : (plc4 (wn : Int) 5).In ws.length := by have h1 := HA.out.ok.len; have h2 := HA.out.ok.rd; exact ⟨h1, by omega⟩
          have HSt := HD.out.wstep (k : Int) hlow4 hin HA.out.wd (HA.out.okw hp6) hp6
          have hlo := fun w' => HD.out.lowW (w' := w') hp6 HB.out (Nat.le_refl _)
          rw [hd] at HSt hTo
          obtain ⟨hT1, hT2⟩ := hTo
          have HSt2 := Kp.mk HSt
          have HLO := Kp.mk hlo
          have HT1 := Kp.mk hT1
          have HT2 := Kp.mk hT2
          clear HSt hlo hd HD HB HA hT1 hT2 hin
          go_wp2_with fail
          refine HSt2.out.mono ?_
          rintro e w9 ⟨rfl, hD', hS⟩
          have HB9 := Kp.mk (HLO.out w9 hS)
          have HD9 := Kp.mk hD'
          clear hD' hS HLO HSt2
          by_cases hbf : 0 < d.buffer
          · obtain ⟨q1, q2, q3⟩ := HT1.out (by omega)
            have HA9 := Kp.mk q3
            obtain ⟨dn, hdn⟩ : ∃ dn, d.done = dn := ⟨_, rfl⟩
            obtain ⟨bf, hbfe⟩ : ∃ bf, d.buffer = bf := ⟨_, rfl⟩
            rw [hbfe] at hbf HA9
            have hap := HA9.out.apart
            have m1 : IntKind.i64.wrap ((wn : Int) + 2) = (wn : Int) + 2 := IntWalk.i64_in _ (by omega)
            have m2 : (wn : Int) + 2 - 1 = (wn : Int) + 1 := by omega
            have m3 : IntKind.i64.wrap ((wn : Int) + 1) = (wn : Int) + 1 := IntWalk.i64_in _ (by omega)
            have m4 : ¬ (wn : Int) + 1 ≤ 0 := by omega
            have m5 : ¬ bf = re := fun e => hap ⟨hbf, e⟩
            have HQ2 := Kp.mk q2
            clear q2 q3 hap HT1 HT2 hdn
            rw [hbfe, q1]
            go_wp2
            go_roundw
            case rel => exact ⟨k + 1, W, g, dc, R, bs', da, dr, _, _, r, bf, re, (wn : Int) + 1, by omega, by go_num, (if_pos HQ2.out).symm, HVR.out, rfl, rfl, rfl, ⟨HD9.out.below (below_al (Below.refl _ _) _)⟩, ⟨below_al HB9.out _⟩, HA9⟩
            case measure => simp [intOf]; omega
          · obtain ⟨b1, b2, q2, q3⟩ := HT2.out (by omega)
            obtain ⟨bf, hbfe⟩ : ∃ bf, d.buffer = bf := ⟨_, rfl⟩
            rw [hbfe] at hbf
            have m2 : IntKind.i64.wrap (le - 1) = le - 1 := IntWalk.i64_in _ (by omega)
            rw [hbfe]
            clear HT1 HT2
            by_cases hl0 : le - 1 ≤ 0
            · rw [if_pos hl0] at q3
              have HA9 := Kp.mk q3
              clear q3
              cases hdn : d.done with
              | true =>
                rw [hdn, if_pos rfl] at q2
                have HQ2 := Kp.mk q2
                clear q2
                go_wp2
                go_roundw
                case rel => exact ⟨k + 1, W, g, dc, R, bs', da, dr, _, _, r, 0, re, le - 1, by omega, by go_num, (if_neg (by have := HQ2.out; omega)).symm, HVR.out, rfl, rfl, rfl, ⟨HD9.out.below (below_al (Below.refl _ _) _)⟩, ⟨below_al HB9.out _⟩, HA9⟩
                case measure => simp [intOf]; omega
              | false =>
                rw [hdn, if_neg (by simp)] at q2
                have HQ2 := Kp.mk q2
                clear q2
                go_wp2
                go_roundw
                case rel => exact ⟨k + 1, W, g, dc, R, bs', da, dr, _, _, r, 0, re, le - 1, by omega, by go_num, (if_pos HQ2.out).symm, HVR.out, rfl, rfl, rfl, ⟨HD9.out.below (below_al (Below.refl _ _) _)⟩, ⟨below_al HB9.out _⟩, HA9⟩
                case measure => simp [intOf]; omega
            · rw [if_neg hl0] at q3
              have HA9 := Kp.mk q3
              have hap := q3.apart
              clear q3
              by_cases hf0 : 0 < fi
              · have m5 : ¬ fi = re := fun e => hap ⟨hf0, e⟩
                clear hap
                cases hdn : d.done with
                | true =>
                  rw [hdn, if_pos rfl] at q2
                  have HQ2 := Kp.mk q2
                  clear q2
                  go_wp2
                  go_roundw
                  case rel => exact ⟨k + 1, W, g, dc, R, bs', da, dr, _, _, r, fi, re, le - 1, by omega, by go_num, (if_neg (by have := HQ2.out; omega)).symm, HVR.out, rfl, rfl, rfl, ⟨HD9.out.below (below_al (Below.refl _ _) _)⟩, ⟨below_al HB9.out _⟩, HA9⟩
                  case measure => simp [intOf]; omega
                | false =>
                  rw [hdn, if_neg (by simp)] at q2
                  have HQ2 := Kp.mk q2
                  clear q2
                  go_wp2
                  go_roundw
                  case rel => exact ⟨k + 1, W, g, dc, R, bs', da, dr, _, _, r, fi, re, le - 1, by omega, by go_num, (if_pos HQ2.out).symm, HVR.out, rfl, rfl, rfl, ⟨HD9.out.below (below_al (Below.refl _ _) _)⟩, ⟨below_al HB9.out _⟩, HA9⟩
                  case measure => simp [intOf]; omega
              · clear hap
                cases hdn : d.done with
                | true =>
                  rw [hdn, if_pos rfl] at q2
                  have HQ2 := Kp.mk q2
                  clear q2
                  go_wp2
                  go_roundw
                  case rel => exact ⟨k + 1, W, g, dc, R, bs', da, dr, _, _, r, fi, re, le - 1, by omega, by go_num, (if_neg (by have := HQ2.out; omega)).symm, HVR.out, rfl, rfl, rfl, ⟨HD9.out.below (below_al (Below.refl _ _) _)⟩, ⟨below_al HB9.out _⟩, HA9⟩
                  case measure => simp [intOf]; omega
                | false =>
                  rw [hdn, if_neg (by simp)] at q2
                  have HQ2 := Kp.mk q2
                  clear q2
                  go_wp2
                  go_roundw
                  case rel => exact ⟨k + 1, W, g, dc, R, bs', da, dr, _, _, r, fi, re, le - 1, by omega, by go_num, (if_pos HQ2.out).symm, HVR.out, rfl, rfl, rfl, ⟨HD9.out.below (below_al (Below.refl _ _) _)⟩, ⟨below_al HB9.out _⟩, HA9⟩
                  case measure => simp [intOf]; omega
        · rw [if_neg hpc] at hvw
          subst hvw
          have HVR := Kp.mk hvr
          clear hvr
          have qd0 : wr.cell? ⟨w2.heap.size, 0, none⟩ = some (.slice kc.pa 2 kc.pc) := ((HB.out.cell (p := ⟨w2.heap.size, 0, none⟩) lq3).trans (cell_blk q3.out 0)).trans rfl
          have qd1 : wr.cell? ⟨w2.heap.size, 1, none⟩ = some (.slice (some ⟨kc.cg, kc.co, none⟩) 1 kc.cc) := ((HB.out.cell (p := ⟨w2.heap.size, 1, none⟩) lq3).trans (cell_blk q3.out 1)).trans rfl
          have qd2 : wr.cell? ⟨w2.heap.size, 2, none⟩ = some (.int .i64 1) := ((HB.out.cell (p := ⟨w2.heap.size, 2, none⟩) lq3).trans (cell_blk q3.out 2)).trans rfl
          have qd3 : wr.cell? ⟨w2.heap.size, 3, none⟩ = some (.slice kc.a0 1 kc.c0) := ((HB.out.cell (p := ⟨w2.heap.size, 3, none⟩) lq3).trans (cell_blk q3.out 3)).trans rfl
          have qd4 : wr.cell? ⟨w2.heap.size, 4, none⟩ = some (.int .i64 1) := ((HB.out.cell (p := ⟨w2.heap.size, 4, none⟩) lq3).trans (cell_blk q3.out 4)).trans rfl
          have qd5 : wr.cell? ⟨w2.heap.size, 5, none⟩ = some (.slice kc.a1 1 kc.c1) := ((HB.out.cell (p := ⟨w2.heap.size, 5, none⟩) lq3).trans (cell_blk q3.out 5)).trans rfl
          have qe : w2.heap.size < wr.heap.size := Nat.lt_of_lt_of_le lq3 HB.out.size
          have hmk := HMK.out
          have HAn := Kp.mk (HA.out.new (by omega) hwn.1)
          go_wp2_with fail
          refine held_start_gen (S := (fun w' : World => ButB (wr.heap.size) [] wr w' ∧ ∀ bb o, bb < wr.heap.size → w'.cell? ⟨bb, o, none⟩ = wr.cell? ⟨bb, o, none⟩)) (by kernel_rfl) (fun wz : World => Kp (Duo wz [] w3.heap.size B D W g dc R bs' da dr (plc4 (wn : Int) 5) ws s r) ∧ Kp (Below w3.heap.size w3 wz) ∧ wr.heap.size ≤ wz.heap.size) ⟨⟨HD.out.below (below_dr (Below.refl _ _))⟩, ⟨below_dr HB.out⟩, Nat.le_refl _⟩ (sx_of0 (ButB.dr (ButB.refl _ (by omega)))) (fun wd0 hRn hHeld => ?_)
          clear HD HB
          obtain ⟨HD, HB, hsz⟩ := hRn
          refine wtk 0 ?_ rfl (.inl ⟨by rfl, ?_⟩) ?_
          rotate_left 1
          · (intro w hSw; go_simp; try with_reducible rfl)
          try simp only [Act.put, ls0, ls1, ls2]
          refine wtk 1 ?_ rfl (.inl ⟨by rfl, ?_⟩) ?_
          rotate_left 1
          · (intro w hSw; go_simp; try with_reducible rfl)
          try simp only [Act.put, ls0, ls1, ls2]
          refine wrd [2] ?_
          refine (arc rfl (fun K hK => ?_) arn)
          have ge_HG : wr.heap.size ≤ wd0.heap.size := (And.left hHeld).size
          go_simp
          try go_wp2_with fail
          refine out_gen hK _ _ (fun wz : World => Kp (Duo wz [] w3.heap.size B D W g dc R bs' da dr (plc4 (wn : Int) 5) ws s r) ∧ Kp (Below w3.heap.size w3 wz) ∧ Kp (wz.heap[wd0.heap.size]? = some (.cells (u32s (List.replicate wn 0)).toArray 41 (0, 0))) ∧ wd0.heap.size < wz.heap.size) ⟨⟨HD.out.below (below_al (Below.refl _ _) _)⟩, ⟨below_al HB.out _⟩, ⟨blk_new wd0 _⟩, (by simp)⟩ (sx_of0 (ButB.al (And.left hHeld) _)) (fun wd1 hRn hHn => ?_)
          clear hK K hHeld HD HB
          obtain ⟨HD, HB, HG, hsz1⟩ := hRn
          have hHeld := hHn
          clear hHn
          try simp only [Act.put, ls0, ls1, ls2]
          have lt_HG := blk_lt HG.out
          refine wrd [3] ?_
          refine (arc rfl (fun K hK => ?_) arn)
          go_simp
          have hcon := newW_two (.agg #[.slice kc.pa 2 kc.pc, .slice (some ⟨kc.cg, kc.co, none⟩) 1 kc.cc, .int .i64 1, .slice kc.a0 1 kc.c0, .int .i64 1, .slice kc.a1 1 kc.c1]) (wn : Int) 5 hwd (by omega) (some ⟨wd0.heap.size, 0, none⟩) wn (List.replicate wn 0) (by simp; omega) (by simp; omega) wd1 (HCF.out.cfg.below HB.out) (by rw [List.length_replicate]; exact row_blk HG.out rfl (by rw [u32s_len, List.length_replicate, Nat.mul_one]) (by omega))
          rw [List.length_replicate] at hcon
          go_at_call 13
          refine hcon.mono ?_
          clear hcon
          rintro e w9 ⟨W', g', dc', rfl, hW, hb, hWl, hgl, hgW⟩
          try go_wp2_with fail
          refine out_gen hK _ _ (fun wz : World => Kp (Below w3.heap.size w3 wz) ∧ Kp (wz.heap[wd0.heap.size]? = some (.cells (u32s (List.replicate wn 0)).toArray 41 (0, 0))) ∧ Kp (Duo wz [] w3.heap.size B D W' g' dc' R bs' da dr (plc4 (wn : Int) 5) ws (wr0 (List.replicate wn 0)) r) ∧ wd1.heap.size ≤ wz.heap.size) ⟨⟨below_call HB.out hb⟩, ⟨blk_below HG.out hb⟩, ⟨(Duo.newW (List.replicate wn 0) HD.out (Nat.le_trans lwr hHeld.1.size) (by simp) hb hW.out hWl hgl hgW)⟩, hb.size⟩ (sx_of0 (ButB.call (And.left hHeld) hb)) (fun wd2 hRn hHn => ?_)
          clear hK K hHeld HD HB HG hb hW hWl hgl hgW
          obtain ⟨HB, HG, HD2, hsz2⟩ := hRn
          have hHeld := hHn
          clear hHn
          try simp only [Act.put, ls0, ls1, ls2]
          refine wtk 4 ?_ rfl (.inl ⟨by rfl, ?_⟩) ?_
          rotate_left 1
          · (intro w hSw; go_simp; try with_reducible rfl)
          try simp only [Act.put, ls0, ls1, ls2]
          refine wpAnyH_done (by kernel_rfl) ?_ _
          clear hHeld hmk qd0 qd1 qd2 qd3 qd4 qd5 qe
          have HD := HD2
          have HA := HAn
          clear HD2 HAn HG lt_HG ge_HG
          obtain ⟨s2, hs2⟩ : ∃ s2, wr0 (List.replicate wn 0) = s2 := ⟨_, rfl⟩
          have hp6 : s2.pc ≤ 6 := by rw [← hs2]; exact Nat.zero_le _
          rw [hs2] at HD HA
          clear hs2
          obtain ⟨d, hd⟩ : ∃ d, wDid (plc4 (wn : Int) 5) ws s2 = d := ⟨_, rfl⟩
          have hTo := HA.out.wstep (k : Int) (show (wn : Int) ≤ 16 by omega) hp6
          have hin : (plc4 (wn : Int) 5).In ws.length := by have h1 := HA.out.ok.len; have h2 := HA.out.ok.rd; exact ⟨h1, by omega⟩
          have HSt := HD.out.wstep (k : Int) hlow4 hin HA.out.wd (HA.out.okw hp6) hp6
          have hlo := fun w' => HD.out.lowW (w' := w') hp6 HB.out (Nat.le_refl _)
          rw [hd] at HSt hTo
          obtain ⟨hT1, hT2⟩ := hTo
          have HSt2 := Kp.mk HSt
          have HLO := Kp.mk hlo
          have HT1 := Kp.mk hT1
          have HT2 := Kp.mk hT2
          clear HSt hlo hd HD HB HA hT1 hT2 hin
          go_wp2_with fail
          refine HSt2.out.mono ?_
          rintro e w9 ⟨rfl, hD', hS⟩
          have HB9 := Kp.mk (HLO.out w9 hS)
          have HD9 := Kp.mk hD'
          clear hD' hS HLO HSt2
          by_cases hbf : 0 < d.buffer
          · obtain ⟨q1, q2, q3⟩ := HT1.out (by omega)
            have HA9 := Kp.mk q3
            obtain ⟨dn, hdn⟩ : ∃ dn, d.done = dn := ⟨_, rfl⟩
            obtain ⟨bf, hbfe⟩ : ∃ bf, d.buffer = bf := ⟨_, rfl⟩
            rw [hbfe] at hbf HA9
            have hap := HA9.out.apart
            have m1 : IntKind.i64.wrap ((wn : Int) + 2) = (wn : Int) + 2 := IntWalk.i64_in _ (by omega)
            have m2 : (wn : Int) + 2 - 1 = (wn : Int) + 1 := by omega
            have m3 : IntKind.i64.wrap ((wn : Int) + 1) = (wn : Int) + 1 := IntWalk.i64_in _ (by omega)
            have m4 : ¬ (wn : Int) + 1 ≤ 0 := by omega
            have m5 : ¬ bf = re := fun e => hap ⟨hbf, e⟩
            have HQ2 := Kp.mk q2
            clear q2 q3 hap HT1 HT2 hdn
            rw [hbfe, q1]
            go_wp2
            go_roundw
            case rel => exact ⟨k + 1, W', g', dc', R, bs', da, dr, _, _, r, bf, re, (wn : Int) + 1, by omega, by go_num, (if_pos HQ2.out).symm, HVR.out, rfl, rfl, rfl, ⟨HD9.out.below (below_al (Below.refl _ _) _)⟩, ⟨below_al HB9.out _⟩, HA9⟩
            case measure => simp [intOf]; omega
          · obtain ⟨b1, b2, q2, q3⟩ := HT2.out (by omega)
            obtain ⟨bf, hbfe⟩ : ∃ bf, d.buffer = bf := ⟨_, rfl⟩
            rw [hbfe] at hbf
            have m2 : IntKind.i64.wrap (le - 1) = le - 1 := IntWalk.i64_in _ (by omega)
            rw [hbfe]
            clear HT1 HT2
            by_cases hl0 : le - 1 ≤ 0
            · rw [if_pos hl0] at q3
              have HA9 := Kp.mk q3
              clear q3
              cases hdn : d.done with
              | true =>
                rw [hdn, if_pos rfl] at q2
                have HQ2 := Kp.mk q2
                clear q2
                go_wp2
                go_roundw
                case rel => exact ⟨k + 1, W', g', dc', R, bs', da, dr, _, _, r, 0, re, le - 1, by omega, by go_num, (if_neg (by have := HQ2.out; omega)).symm, HVR.out, rfl, rfl, rfl, ⟨HD9.out.below (below_al (Below.refl _ _) _)⟩, ⟨below_al HB9.out _⟩, HA9⟩
                case measure => simp [intOf]; omega
              | false =>
                rw [hdn, if_neg (by simp)] at q2
                have HQ2 := Kp.mk q2
                clear q2
                go_wp2
                go_roundw
                case rel => exact ⟨k + 1, W', g', dc', R, bs', da, dr, _, _, r, 0, re, le - 1, by omega, by go_num, (if_pos HQ2.out).symm, HVR.out, rfl, rfl, rfl, ⟨HD9.out.below (below_al (Below.refl _ _) _)⟩, ⟨below_al HB9.out _⟩, HA9⟩
                case measure => simp [intOf]; omega
            · rw [if_neg hl0] at q3
              have HA9 := Kp.mk q3
              have hap := q3.apart
              clear q3
              by_cases hf0 : 0 < fi
              · have m5 : ¬ fi = re := fun e => hap ⟨hf0, e⟩
                clear hap
                cases hdn : d.done with
                | true =>
                  rw [hdn, if_pos rfl] at q2
                  have HQ2 := Kp.mk q2
                  clear q2
                  go_wp2
                  go_roundw
                  case rel => exact ⟨k + 1, W', g', dc', R, bs', da, dr, _, _, r, fi, re, le - 1, by omega, by go_num, (if_neg (by have := HQ2.out; omega)).symm, HVR.out, rfl, rfl, rfl, ⟨HD9.out.below (below_al (Below.refl _ _) _)⟩, ⟨below_al HB9.out _⟩, HA9⟩
                  case measure => simp [intOf]; omega
                | false =>
                  rw [hdn, if_neg (by simp)] at q2
                  have HQ2 := Kp.mk q2
                  clear q2
                  go_wp2
                  go_roundw
                  case rel => exact ⟨k + 1, W', g', dc', R, bs', da, dr, _, _, r, fi, re, le - 1, by omega, by go_num, (if_pos HQ2.out).symm, HVR.out, rfl, rfl, rfl, ⟨HD9.out.below (below_al (Below.refl _ _) _)⟩, ⟨below_al HB9.out _⟩, HA9⟩
                  case measure => simp [intOf]; omega
              · clear hap
                cases hdn : d.done with
                | true =>
                  rw [hdn, if_pos rfl] at q2
                  have HQ2 := Kp.mk q2
                  clear q2
                  go_wp2
                  go_roundw
                  case rel => exact ⟨k + 1, W', g', dc', R, bs', da, dr, _, _, r, fi, re, le - 1, by omega, by go_num, (if_neg (by have := HQ2.out; omega)).symm, HVR.out, rfl, rfl, rfl, ⟨HD9.out.below (below_al (Below.refl _ _) _)⟩, ⟨below_al HB9.out _⟩, HA9⟩
                  case measure => simp [intOf]; omega
                | false =>
                  rw [hdn, if_neg (by simp)] at q2
                  have HQ2 := Kp.mk q2
                  clear q2
                  go_wp2
                  go_roundw
                  case rel => exact ⟨k + 1, W', g', dc', R, bs', da, dr, _, _, r, fi, re, le - 1, by omega, by go_num, (if_pos HQ2.out).symm, HVR.out, rfl, rfl, rfl, ⟨HD9.out.below (below_al (Below.refl _ _) _)⟩, ⟨below_al HB9.out _⟩, HA9⟩
                  case measure => simp [intOf]; omega
      | false =>
        rw [hb] at ck
        clear hb
        by_cases hpc : r.pc ≤ 5
        · rw [if_pos hpc] at hvr
          subst hvr
          have HVW := Kp.mk hvw
          clear hvw
          have hp5 := hpc
          obtain ⟨d, hd⟩ : ∃ d, rDid (plc4 (wn : Int) 5) ws (k : Int) r = d := ⟨_, rfl⟩
          have hTo := HA.out.rstep (k : Int) hwn.1 hp5
          have hin : (plc4 (wn : Int) 5).In ws.length := by have h1 := HA.out.ok.len; have h2 := HA.out.ok.rd; exact ⟨h1, by omega⟩
          have HSt := HD.out.rstep (k : Int) (by omega) hlow4 hin HA.out.wd (HA.out.okr hp5) hp5 (by simp)
          have hlo := fun w' => HD.out.low (w' := w') hp5 HB.out (Nat.le_refl _)
          rw [hd] at HSt hTo
          obtain ⟨hT1, hT2⟩ := hTo
          have HSt2 := Kp.mk HSt
          have HLO := Kp.mk hlo
          have HT1 := Kp.mk hT1
          have HT2 := Kp.mk hT2
          clear HSt hlo hd HD HB HA hT1 hT2 hin
          go_wp2_with fail
          refine HSt2.out.mono ?_
          rintro e w9 ⟨a9, k9, rfl, hrow, da', dr', hD', hS, hvq⟩
          have HB9 := Kp.mk (HLO.out w9 hS)
          have HD9 := Kp.mk hD'
          clear hrow hD' hS hvq HLO HSt2
          obtain ⟨bf, hbfe⟩ : ∃ bf, d.buffer = bf := ⟨_, rfl⟩
          rw [hbfe]
          cases hdn : d.done with
          | true =>
            obtain ⟨q1, q2⟩ := HT2.out hdn
            have hap := q2.apart
            have HA9 := Kp.mk q2
            have HQ1 := Kp.mk q1
            clear q1 q2 HT1 HT2 hdn hbfe
            by_cases hbf : 0 < bf
            · by_cases hf0 : 0 < fi
              · have m5 : ¬ fi = 0 := fun e => hap ⟨hf0, e⟩
                clear hap
                go_wp2
                go_roundw
                case rel => exact ⟨k + 1, W, g, dc, R, bs', da', dr', _, s, _, fi, 0, le, by omega, by go_num, HVW.out, (if_neg (by have := HQ1.out; omega)).symm, rfl, rfl, rfl, ⟨HD9.out.below (below_al (Below.refl _ _) _)⟩, ⟨below_al HB9.out _⟩, HA9⟩
                case measure => simp [intOf]; omega
              · clear hap
                go_wp2
                go_roundw
                case rel => exact ⟨k + 1, W, g, dc, R, bs', da', dr', _, s, _, fi, 0, le, by omega, by go_num, HVW.out, (if_neg (by have := HQ1.out; omega)).symm, rfl, rfl, rfl, ⟨HD9.out.below (below_al (Below.refl _ _) _)⟩, ⟨below_al HB9.out _⟩, HA9⟩
                case measure => simp [intOf]; omega
            · by_cases hf0 : 0 < fi
              · have m5 : ¬ fi = 0 := fun e => hap ⟨hf0, e⟩
                clear hap
                go_wp2
                go_roundw
                case rel => exact ⟨k + 1, W, g, dc, R, bs', da', dr', _, s, _, fi, 0, le, by omega, by go_num, HVW.out, (if_neg (by have := HQ1.out; omega)).symm, rfl, rfl, rfl, ⟨HD9.out.below (below_al (Below.refl _ _) _)⟩, ⟨below_al HB9.out _⟩, HA9⟩
                case measure => simp [intOf]; omega
              · clear hap
                go_wp2
                go_roundw
                case rel => exact ⟨k + 1, W, g, dc, R, bs', da', dr', _, s, _, fi, 0, le, by omega, by go_num, HVW.out, (if_neg (by have := HQ1.out; omega)).symm, rfl, rfl, rfl, ⟨HD9.out.below (below_al (Below.refl _ _) _)⟩, ⟨below_al HB9.out _⟩, HA9⟩
                case measure => simp [intOf]; omega
          | false =>
            obtain ⟨q1, q2⟩ := HT1.out hdn
            rw [hbfe] at q2
            have HQ1 := Kp.mk q1
            clear q1 HT1 HT2 hdn hbfe
            by_cases hbf : 0 < bf
            · rw [if_pos hbf] at q2
              have hap := q2.apart
              have HA9 := Kp.mk q2
              clear q2
              by_cases hf0 : 0 < fi
              · have m5 : ¬ fi = bf := fun e => hap ⟨hf0, e⟩
                clear hap
                go_wp2
                go_roundw
                case rel => exact ⟨k + 1, W, g, dc, R, bs', da', dr', _, s, _, fi, bf, le, by omega, by go_num, HVW.out, (if_pos HQ1.out).symm, rfl, rfl, rfl, ⟨HD9.out.below (below_al (Below.refl _ _) _)⟩, ⟨below_al HB9.out _⟩, HA9⟩
                case measure => simp [intOf]; omega
              · clear hap
                go_wp2
                go_roundw
                case rel => exact ⟨k + 1, W, g, dc, R, bs', da', dr', _, s, _, fi, bf, le, by omega, by go_num, HVW.out, (if_pos HQ1.out).symm, rfl, rfl, rfl, ⟨HD9.out.below (below_al (Below.refl _ _) _)⟩, ⟨below_al HB9.out _⟩, HA9⟩
                case measure => simp [intOf]; omega
            · rw [if_neg hbf] at q2
              have hap := q2.apart
              have HA9 := Kp.mk q2
              clear q2
              by_cases hf0 : 0 < fi
              · have m5 : ¬ fi = re := fun e => hap ⟨hf0, e⟩
                clear hap
                go_wp2
                go_roundw
                case rel => exact ⟨k + 1, W, g, dc, R, bs', da', dr', _, s, _, fi, re, le, by omega, by go_num, HVW.out, (if_pos HQ1.out).symm, rfl, rfl, rfl, ⟨HD9.out.below (below_al (Below.refl _ _) _)⟩, ⟨below_al HB9.out _⟩, HA9⟩
                case measure => simp [intOf]; omega
              · clear hap
                go_wp2
                go_roundw
                case rel => exact ⟨k + 1, W, g, dc, R, bs', da', dr', _, s, _, fi, re, le, by omega, by go_num, HVW.out, (if_pos HQ1.out).symm, rfl, rfl, rfl, ⟨HD9.out.below (below_al (Below.refl _ _) _)⟩, ⟨below_al HB9.out _⟩, HA9⟩
                case measure => simp [intOf]; omega
        · rw [if_neg hpc] at hvr
          subst hvr
          have HVW := Kp.mk hvw
          clear hvw
          have qd0 : wr.cell? ⟨w2.heap.size, 0, none⟩ = some (.slice kc.pa 2 kc.pc) := ((HB.out.cell (p := ⟨w2.heap.size, 0, none⟩) lq3).trans (cell_blk q3.out 0)).trans rfl
          have qd1 : wr.cell? ⟨w2.heap.size, 1, none⟩ = some (.slice (some ⟨kc.cg, kc.co, none⟩) 1 kc.cc) := ((HB.out.cell (p := ⟨w2.heap.size, 1, none⟩) lq3).trans (cell_blk q3.out 1)).trans rfl
          have qd2 : wr.cell? ⟨w2.heap.size, 2, none⟩ = some (.int .i64 1) := ((HB.out.cell (p := ⟨w2.heap.size, 2, none⟩) lq3).trans (cell_blk q3.out 2)).trans rfl
          have qd3 : wr.cell? ⟨w2.heap.size, 3, none⟩ = some (.slice kc.a0 1 kc.c0) := ((HB.out.cell (p := ⟨w2.heap.size, 3, none⟩) lq3).trans (cell_blk q3.out 3)).trans rfl
          have qd4 : wr.cell? ⟨w2.heap.size, 4, none⟩ = some (.int .i64 1) := ((HB.out.cell (p := ⟨w2.heap.size, 4, none⟩) lq3).trans (cell_blk q3.out 4)).trans rfl
          have qd5 : wr.cell? ⟨w2.heap.size, 5, none⟩ = some (.slice kc.a1 1 kc.c1) := ((HB.out.cell (p := ⟨w2.heap.size, 5, none⟩) lq3).trans (cell_blk q3.out 5)).trans rfl
          have qe : w2.heap.size < wr.heap.size := Nat.lt_of_lt_of_le lq3 HB.out.size
          have HAn := Kp.mk (HA.out.newR (by omega) hwn.1)
          go_wp2_with fail
          refine (newR_two (.agg #[.slice kc.pa 2 kc.pc, .slice (some ⟨kc.cg, kc.co, none⟩) 1 kc.cc, .int .i64 1, .slice kc.a0 1 kc.c0, .int .i64 1, .slice kc.a1 1 kc.c1]) (wn : Int) 5 hwd (by omega) wr (HCF.out.cfg.below HB.out)).mono ?_
          rintro e w5 ⟨R, rfl, hR, hb, hRl⟩
          have HB5 : Kp (Below w3.heap.size w3 w5) := ⟨HB.out.trans (hb.mono HB.out.size)⟩
          have HD5 : Kp (Duo w5 [] w3.heap.size B D W g dc R (R + 1) none 0 (plc4 (wn : Int) 5) ws s rdr0) := ⟨Duo.newR HD.out lwr (by simp) hb hR.out hRl⟩
          clear HB HD HA hb hR hRl qd0 qd1 qd2 qd3 qd4 qd5 qe
          obtain ⟨r2, hr2⟩ : ∃ r2, rdr0 = r2 := ⟨_, rfl⟩
          have hp5 : r2.pc ≤ 5 := by rw [← hr2]; exact Nat.zero_le _
          have HD := HD5
          have HA := HAn
          have HB := HB5
          clear HD5 HAn HB5
          obtain ⟨da0, hda⟩ : ∃ da0 : Option Addr, none = da0 := ⟨_, rfl⟩
          obtain ⟨dr0, hdr⟩ : ∃ dr0 : Nat, 0 = dr0 := ⟨_, rfl⟩
          rw [hr2, hda, hdr] at HD
          rw [hr2] at HA
          clear hr2 hda hdr
          obtain ⟨d, hd⟩ : ∃ d, rDid (plc4 (wn : Int) 5) ws (k : Int) r2 = d := ⟨_, rfl⟩
          have hTo := HA.out.rstep (k : Int) hwn.1 hp5
          have hin : (plc4 (wn : Int) 5).In ws.length := by have h1 := HA.out.ok.len; have h2 := HA.out.ok.rd; exact ⟨h1, by omega⟩
          have HSt := HD.out.rstep (k : Int) (by omega) hlow4 hin HA.out.wd (HA.out.okr hp5) hp5 (by simp)
          have hlo := fun w' => HD.out.low (w' := w') hp5 HB.out (Nat.le_refl _)
          rw [hd] at HSt hTo
          obtain ⟨hT1, hT2⟩ := hTo
          have HSt2 := Kp.mk HSt
          have HLO := Kp.mk hlo
          have HT1 := Kp.mk hT1
          have HT2 := Kp.mk hT2
          clear HSt hlo hd HD HB HA hT1 hT2 hin
          go_wp2_with fail
          refine HSt2.out.mono ?_
          rintro e w9 ⟨a9, k9, rfl, hrow, da', dr', hD', hS, hvq⟩
          have HB9 := Kp.mk (HLO.out w9 hS)
          have HD9 := Kp.mk hD'
          clear hrow hD' hS hvq HLO HSt2
          obtain ⟨bf, hbfe⟩ : ∃ bf, d.buffer = bf := ⟨_, rfl⟩
          rw [hbfe]
          cases hdn : d.done with
          | true =>
            obtain ⟨q1, q2⟩ := HT2.out hdn
            have hap := q2.apart
            have HA9 := Kp.mk q2
            have HQ1 := Kp.mk q1
            clear q1 q2 HT1 HT2 hdn hbfe
            by_cases hbf : 0 < bf
            · by_cases hf0 : 0 < fi
              · have m5 : ¬ fi = 0 := fun e => hap ⟨hf0, e⟩
                clear hap
                go_wp2
                go_roundw
                case rel => exact ⟨k + 1, W, g, dc, R, R + 1, da', dr', _, s, _, fi, 0, le, by omega, by go_num, HVW.out, (if_neg (by have := HQ1.out; omega)).symm, rfl, rfl, rfl, ⟨HD9.out.below (below_al (Below.refl _ _) _)⟩, ⟨below_al HB9.out _⟩, HA9⟩
                case measure => simp [intOf]; omega
              · clear hap
                go_wp2
                go_roundw
                case rel => exact ⟨k + 1, W, g, dc, R, R + 1, da', dr', _, s, _, fi, 0, le, by omega, by go_num, HVW.out, (if_neg (by have := HQ1.out; omega)).symm, rfl, rfl, rfl, ⟨HD9.out.below (below_al (Below.refl _ _) _)⟩, ⟨below_al HB9.out _⟩, HA9⟩
                case measure => simp [intOf]; omega
            · by_cases hf0 : 0 < fi
              · have m5 : ¬ fi = 0 := fun e => hap ⟨hf0, e⟩
                clear hap
                go_wp2
                go_roundw
                case rel => exact ⟨k + 1, W, g, dc, R, R + 1, da', dr', _, s, _, fi, 0, le, by omega, by go_num, HVW.out, (if_neg (by have := HQ1.out; omega)).symm, rfl, rfl, rfl, ⟨HD9.out.below (below_al (Below.refl _ _) _)⟩, ⟨below_al HB9.out _⟩, HA9⟩
                case measure => simp [intOf]; omega
              · clear hap
                go_wp2
                go_roundw
                case rel => exact ⟨k + 1, W, g, dc, R, R + 1, da', dr', _, s, _, fi, 0, le, by omega, by go_num, HVW.out, (if_neg (by have := HQ1.out; omega)).symm, rfl, rfl, rfl, ⟨HD9.out.below (below_al (Below.refl _ _) _)⟩, ⟨below_al HB9.out _⟩, HA9⟩
                case measure => simp [intOf]; omega
          | false =>
            obtain ⟨q1, q2⟩ := HT1.out hdn
            rw [hbfe] at q2
            have HQ1 := Kp.mk q1
            clear q1 HT1 HT2 hdn hbfe
            by_cases hbf : 0 < bf
            · rw [if_pos hbf] at q2
              have hap := q2.apart
              have HA9 := Kp.mk q2
              clear q2
              by_cases hf0 : 0 < fi
              · have m5 : ¬ fi = bf := fun e => hap ⟨hf0, e⟩
                clear hap
                go_wp2
                go_roundw
                case rel => exact ⟨k + 1, W, g, dc, R, R + 1, da', dr', _, s, _, fi, bf, le, by omega, by go_num, HVW.out, (if_pos HQ1.out).symm, rfl, rfl, rfl, ⟨HD9.out.below (below_al (Below.refl _ _) _)⟩, ⟨below_al HB9.out _⟩, HA9⟩
                case measure => simp [intOf]; omega
              · clear hap
                go_wp2
                go_roundw
                case rel => exact ⟨k + 1, W, g, dc, R, R + 1, da', dr', _, s, _, fi, bf, le, by omega, by go_num, HVW.out, (if_pos HQ1.out).symm, rfl, rfl, rfl, ⟨HD9.out.below (below_al (Below.refl _ _) _)⟩, ⟨below_al HB9.out _⟩, HA9⟩
                case measure => simp [intOf]; omega
            · rw [if_neg hbf] at q2
              have hap := q2.apart
              have HA9 := Kp.mk q2
              clear q2
              by_cases hf0 : 0 < fi
              · have m5 : ¬ fi = re := fun e => hap ⟨hf0, e⟩
                clear hap
                go_wp2
                go_roundw
                case rel => exact ⟨k + 1, W, g, dc, R, R + 1, da', dr', _, s, _, fi, re, le, by omega, by go_num, HVW.out, (if_pos HQ1.out).symm, rfl, rfl, rfl, ⟨HD9.out.below (below_al (Below.refl _ _) _)⟩, ⟨below_al HB9.out _⟩, HA9⟩
                case measure => simp [intOf]; omega
              · clear hap
                go_wp2
                go_roundw
                case rel => exact ⟨k + 1, W, g, dc, R, R + 1, da', dr', _, s, _, fi, re, le, by omega, by go_num, HVW.out, (if_pos HQ1.out).symm, rfl, rfl, rfl, ⟨HD9.out.below (below_al (Below.refl _ _) _)⟩, ⟨below_al HB9.out _⟩, HA9⟩
                case measure => simp [intOf]; omega
    · obtain rfl : k = L := by omega
      go_wp2
      go_ret
      exact ⟨rfl, HB3.out.trans (HB.out.mono HB3.out.size)⟩
theorem fourApart_any (v0 v1 : Value) (W : World) (o0 : RdV W (.int .u8) v0) (o1 : RdV W (.slice 1 .bool) v1) : Calls Try.prog 5 #[v0, v1] W fun e W' => e = .returned (.bool true) ∧ Below W.heap.size W W' := by
  obtain ⟨wv, rfl, hw⟩ := o0
  obtain ⟨a, c, l, rfl, hr⟩ := boolsAt_of o1
  exact fourApart_main wv (bounds_u8 hw) a l.length c l rfl W hr
end Go.Proofs.Ytmidcnfmphlneaa

/- The four slots, plain: what holds between any two steps goes on holding. Nothing of the program. -/
import Derived.Test.YtmidcnfmphlneaaFourP
namespace Go.Proofs.Ytmidcnfmphlneaa
theorem ld_st (ws : List Int) (a b v : Int) (ha : 0 ≤ a) (hb : 0 ≤ b) (h : a ≠ b) : ldW (stW ws a v) b = ldW ws b := ldW_st _ _ _ _ (by omega)
theorem slot_at (p : Plc) (x : Int) (h : bit x) : p.src + 1 ≤ p.slot x ∧ p.slot x ≤ p.src + 2 := by
  rcases h with rfl | rfl <;> simp only [Plc.slot] <;> omega
theorem buf_at (p : Plc) (x y : Int) (hx : bit x) (hy : bit y) (hw : 1 ≤ p.words) : p.src + 3 ≤ p.buf x y ∧ p.buf x y + 2 + p.words ≤ p.src + 3 + 4 * (2 + p.words) := by
  rcases hx with rfl | rfl <;> rcases hy with rfl | rfl <;> simp only [Plc.buf] <;> omega
theorem bit_flip (x : Int) : bit (1 - x % 2) := by
  have h : x % 2 = 0 ∨ x % 2 = 1 := by omega
  rcases h with h | h <;> rw [h]
  · exact .inr rfl
  · exact .inl rfl
theorem bit_mod (x : Int) : bit (x % 2) := by
  have h : x % 2 = 0 ∨ x % 2 = 1 := by omega
  exact h
theorem bit_self {x : Int} (h : bit x) : x % 2 = x := by rcases h with rfl | rfl <;> rfl
/-- A store that meets neither the reading word nor the slots changes nothing of it. -/
theorem Inv.store {p : Plc} {ws : List Int} {w : Wr} {r : Rdr} (h : Inv p ws w r) (a v : Int) (ok : p.ok ws.length) (ha : p.src + 3 ≤ a) (hb : a < p.rd) : Inv p (stW ws a v) w r := by
  have hs := ok.src
  have h1 := slot_at p w.pair h.wp
  exact ⟨h.wp, h.wi, h.rp, h.ri, fun c1 c2 => by rw [ld_st ws a p.rd v (by omega) (by omega) (by omega)]; exact h.tell c1 c2,
    fun c1 c2 => by rw [ld_st ws a _ v (by omega) (by omega) (by omega)]; exact h.slot c1 c2,
    fun c1 c2 c3 c4 c5 => by rw [ld_st ws a _ v (by omega) (by omega) (by omega)]; exact h.same c1 c2 c3 c4 c5⟩
theorem Inv.wstep {p : Plc} {ws : List Int} {w : Wr} {r : Rdr} (now : Int) (ok : p.ok ws.length) (h : Inv p ws w r) (hroom : (w.data.length : Int) ≤ p.words) (hin : w.pc = 4 → w.i < w.data.length) : Inv p (wMem p ws now w) (wNext p ws w) r := by
  obtain ⟨pc, data, pair, index, i, marked⟩ := w
  have hs := ok.src
  have hw := ok.words
  have hr := ok.rd
  have h1 := slot_at p pair h.wp
  have h2 := buf_at p pair index h.wp h.wi hw
  obtain ⟨wp, wi, rp, ri, tell, slot, same⟩ := h
  simp only at wp wi tell slot same hroom hin
  have hpc : pc = 0 ∨ pc = 1 ∨ pc = 2 ∨ pc = 3 ∨ pc = 4 ∨ pc = 5 ∨ pc = 6 ∨ 7 ≤ pc := by omega
  rcases hpc with rfl | rfl | rfl | rfl | rfl | rfl | rfl | hp
  · exact ⟨bit_flip _, wi, rp, ri, tell, fun c1 c2 => absurd c1 (by simp [wNext]), fun c1 c2 c3 c4 c5 => by
      have e := tell (by omega) c4
      have c6 : 1 - ldW ws p.rd % 2 = r.pair := c5
      rcases rp with e2 | e2 <;> rw [e2] at e c6 <;> omega⟩
  · exact ⟨wp, bit_flip _, rp, ri, tell, fun c1 c2 => by simp only [wNext, wMem]; omega, fun c1 c2 c3 c4 c5 => same (by omega) (by omega) c3 c4 c5⟩
  · have h3 : Inv p ws ⟨3, data, pair, index, i, marked⟩ r := ⟨wp, wi, rp, ri, tell, fun c1 c2 => slot (by omega) (by omega), fun c1 c2 c3 c4 c5 => same (by omega) (by omega) c3 c4 c5⟩
    exact h3.store (p.buf pair index) _ ok (by omega) (by omega)
  · have h3 : Inv p ws ⟨4, data, pair, index, i, marked⟩ r := ⟨wp, wi, rp, ri, tell, fun c1 c2 => slot (by omega) (by omega), fun c1 c2 c3 c4 c5 => same (by omega) (by omega) c3 c4 c5⟩
    exact h3.store (p.buf pair index + 1) _ ok (by omega) (by omega)
  · have hi := hin rfl
    have h3 : Inv p ws ⟨if i + 1 < data.length then 4 else 5, data, pair, index, i + 1, marked⟩ r := ⟨wp, wi, rp, ri, tell, fun c1 c2 => slot (by omega) (by omega), fun c1 c2 c3 c4 c5 => same (by omega) (by omega) c3 c4 c5⟩
    exact h3.store (p.buf pair index + 2 + i) _ ok (by omega) (by omega)
  · refine ⟨wp, wi, rp, ri, fun c1 c2 => ?_, fun c1 c2 => absurd c2 (by simp [wNext]), fun c1 c2 => absurd c2 (by simp [wNext])⟩
    show ldW (stW ws (p.slot pair) index) p.rd % 2 = r.pair
    rw [ld_st _ _ _ _ (by omega) (by omega) (by omega)]
    exact tell c1 c2
  · refine ⟨wp, wi, rp, ri, fun c1 c2 => ?_, fun c1 c2 => absurd c2 (by simp [wNext]), fun c1 c2 => absurd c2 (by simp [wNext])⟩
    show ldW (stW ws p.src pair) p.rd % 2 = r.pair
    rw [ld_st _ _ _ _ (by omega) (by omega) (by omega)]
    exact tell c1 c2
  · have e1 : wNext p ws ⟨pc, data, pair, index, i, marked⟩ = ⟨pc, data, pair, index, i, marked⟩ := by unfold wNext; split <;> simp_all
    have e2 : wMem p ws now ⟨pc, data, pair, index, i, marked⟩ = ws := by unfold wMem; split <;> simp_all
    rw [e1, e2]
    exact ⟨wp, wi, rp, ri, tell, slot, same⟩
theorem Inv.rstep {p : Plc} {ws : List Int} {w : Wr} {r : Rdr} (ok : p.ok ws.length) (h : Inv p ws w r) : Inv p (rMem p ws r) w (rNext p ws r) := by
  obtain ⟨pc, pair, index, left, stamp, data⟩ := r
  have hs := ok.src
  have hw := ok.words
  have hr := ok.rd
  have hl := ok.len
  have h1 := slot_at p w.pair h.wp
  obtain ⟨wp, wi, rp, ri, tell, slot, same⟩ := h
  simp only at rp ri tell same
  have hpc : pc = 0 ∨ pc = 1 ∨ pc = 2 ∨ pc = 3 ∨ pc = 4 ∨ pc = 5 ∨ 6 ≤ pc := by omega
  rcases hpc with rfl | rfl | rfl | rfl | rfl | rfl | hp
  · exact ⟨wp, wi, bit_mod _, ri, fun c1 => absurd c1 (by simp [rNext]), slot, fun c1 c2 c3 => absurd c3 (by simp [rNext])⟩
  · refine ⟨wp, wi, rp, ri, fun c1 c2 => ?_, fun c1 c2 => ?_, fun c1 c2 c3 => absurd c3 (by simp [rNext])⟩
    · show ldW (stW ws p.rd pair) p.rd % 2 = pair
      rw [ldW_same _ _ _ (by omega)]
      exact bit_self rp
    · show ldW (stW ws p.rd pair) (p.slot w.pair) % 2 = _
      rw [ld_st _ _ _ _ (by omega) (by omega) (by omega)]
      exact slot c1 c2
  · exact ⟨wp, wi, rp, bit_mod _, fun c1 c2 => tell (by omega) (by omega), slot, fun c1 c2 c3 c4 c5 => by
      have c6 : w.pair = pair := c5
      rw [c6]; rfl⟩
  · have e1 : ∃ q l, rNext p ws ⟨3, pair, index, left, stamp, data⟩ = ⟨q, pair, index, l, stamp, data⟩ := by
      simp only [rNext]
      split
      · exact ⟨_, _, rfl⟩
      · exact ⟨_, _, rfl⟩
    obtain ⟨q, l, e1⟩ := e1
    rw [e1]
    exact ⟨wp, wi, rp, ri, fun c1 c2 => tell (by omega) (by omega), slot, fun c1 c2 c3 c4 c5 => same c1 c2 (by omega) (by omega) c5⟩
  · exact ⟨wp, wi, rp, ri, fun c1 c2 => tell (by omega) (by omega), slot, fun c1 c2 c3 c4 c5 => same c1 c2 (by omega) (by omega) c5⟩
  · exact ⟨wp, wi, rp, ri, fun c1 c2 => tell (by omega) (by omega), slot, fun c1 c2 c3 c4 c5 => same c1 c2 (by omega) (by omega) c5⟩
  · have e1 : rNext p ws ⟨pc, pair, index, left, stamp, data⟩ = ⟨pc, pair, index, left, stamp, data⟩ := by unfold rNext; split <;> simp_all
    have e2 : rMem p ws ⟨pc, pair, index, left, stamp, data⟩ = ws := by unfold rMem; split <;> simp_all
    rw [e1, e2]
    exact ⟨wp, wi, rp, ri, tell, slot, same⟩
end Go.Proofs.Ytmidcnfmphlneaa

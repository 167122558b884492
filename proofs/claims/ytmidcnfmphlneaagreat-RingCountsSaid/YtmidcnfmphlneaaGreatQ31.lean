/- Two plays side by side: what one of them does leaves the other one as it is. -/
import Derived.Test.YtmidcnfmphlneaaGreatQ26
namespace Go.Proofs.YtmidcnfmphlneaaGreat
open Go.RowKit
set_option linter.unusedSimpArgs false
set_option linter.unusedVariables false
set_option maxRecDepth 100000 in
set_option maxHeartbeats 4000000 in
theorem two12_keep (wd dp bt : Int) (w : World) (hok : (two12 wd dp bt).ok) : Calls Tryz.prog 32 #[.int .i64 wd, .int .i64 dp, .int .u32 bt] w fun e w' => ∃ cs : Array Value, e = .returned (.agg cs) ∧ CfgAt w' (.agg cs) (two12 wd dp bt) ∧ Below w.heap.size w w' ∧ ∀ w'' : World, (∀ (k : Nat) (o : Obj), w.heap.size ≤ k → w'.heap[k]? = some o → w''.heap[k]? = some o) → CfgAt w'' (.agg cs) (two12 wd dp bt) := by
  go_enter Tryz.func32, Tryz.ntmps32
  go_wp2
  refine bodyPost_ret (v := .agg #[.slice (some ⟨w.heap.size + 1, 0, none⟩) 2 2, .slice (some ⟨w.heap.size + 1 + 1, 0, none⟩) 1 1, .int .i64 1, .slice (some ⟨w.heap.size + 1 + 1 + 1 + 1, 0, none⟩) 1 1, .int .i64 1, .slice (some ⟨w.heap.size + 1 + 1 + 1 + 1 + 1, 0, none⟩) 1 1]) (results_cell_row rfl _ _ _ _ _ _ _ rfl (blk_al (blk_al (blk_al (blk_al (blk_al (blk_new _ _) _) _) _) _) _) Tryz.underlying31 rfl (by kernel_rfl)) rfl ⟨_, rfl, ?_, (by repeat (first | exact Below.refl _ _ | apply below_al)), ?_⟩
  · refine ⟨hok, _, 2, _, 1, _, 1, _, 1, rfl, ?_, ?_, ?_, ?_, ?_, ?_, ?_, ?_⟩
    · exact ⟨Nat.le_refl _, by unfold maxLen; omega⟩
    · exact ⟨Nat.le_refl _, by unfold maxLen; omega⟩
    · exact ⟨Nat.le_refl _, by unfold maxLen; omega⟩
    · exact ⟨Nat.le_refl _, by unfold maxLen; omega⟩
    · exact row_blk (blk_al (blk_al (blk_al (blk_al (blk_at (w := (w.alloc (.cells #[.slice (some ⟨w.heap.size + 1, 0, none⟩) 2 2, .slice (some ⟨w.heap.size + 1 + 1, 0, none⟩) 1 1, .int .i64 1, .slice (some ⟨w.heap.size + 1 + 1 + 1 + 1, 0, none⟩) 1 1, .int .i64 1, .slice (some ⟨w.heap.size + 1 + 1 + 1 + 1 + 1, 0, none⟩) 1 1] 31))) (by simp) _) _) _) _) _) rfl rfl (show 2 ≤ 100 by decide)
    · exact row_blk (blk_al (blk_al (blk_al (blk_at (w := ((w.alloc (.cells #[.slice (some ⟨w.heap.size + 1, 0, none⟩) 2 2, .slice (some ⟨w.heap.size + 1 + 1, 0, none⟩) 1 1, .int .i64 1, .slice (some ⟨w.heap.size + 1 + 1 + 1 + 1, 0, none⟩) 1 1, .int .i64 1, .slice (some ⟨w.heap.size + 1 + 1 + 1 + 1 + 1, 0, none⟩) 1 1] 31)).alloc (.cells #[.int .i64 0, .int .i64 1, .int .i64 1, .int .i64 0] 97))) (by simp) _) _) _) _) rfl rfl (show 1 ≤ 100 by decide)
    · exact row_blk (blk_al (blk_at (w := ((((w.alloc (.cells #[.slice (some ⟨w.heap.size + 1, 0, none⟩) 2 2, .slice (some ⟨w.heap.size + 1 + 1, 0, none⟩) 1 1, .int .i64 1, .slice (some ⟨w.heap.size + 1 + 1 + 1 + 1, 0, none⟩) 1 1, .int .i64 1, .slice (some ⟨w.heap.size + 1 + 1 + 1 + 1 + 1, 0, none⟩) 1 1] 31)).alloc (.cells #[.int .i64 0, .int .i64 1, .int .i64 1, .int .i64 0] 97)).alloc (.cells #[.int .i64 2, .int .i64 0, .int .i64 1, .int .i64 wd, .int .i64 dp, .int .i64 0, .int .u32 bt] 52)).alloc (.cells #[.slice (some ⟨w.heap.size + 1, 0, none⟩) 2 2, .slice (some ⟨w.heap.size + 1 + 1, 0, none⟩) 1 1, .int .i64 1, .slice (some ⟨w.heap.size + 1 + 1 + 1 + 1, 0, none⟩) 1 1, .int .i64 1, .slice (some ⟨w.heap.size + 1 + 1 + 1 + 1 + 1, 0, none⟩) 1 1] 31))) (by simp) _) _) rfl rfl (show 1 ≤ 100 by decide)
    · exact row_blk (blk_at (w := (((((w.alloc (.cells #[.slice (some ⟨w.heap.size + 1, 0, none⟩) 2 2, .slice (some ⟨w.heap.size + 1 + 1, 0, none⟩) 1 1, .int .i64 1, .slice (some ⟨w.heap.size + 1 + 1 + 1 + 1, 0, none⟩) 1 1, .int .i64 1, .slice (some ⟨w.heap.size + 1 + 1 + 1 + 1 + 1, 0, none⟩) 1 1] 31)).alloc (.cells #[.int .i64 0, .int .i64 1, .int .i64 1, .int .i64 0] 97)).alloc (.cells #[.int .i64 2, .int .i64 0, .int .i64 1, .int .i64 wd, .int .i64 dp, .int .i64 0, .int .u32 bt] 52)).alloc (.cells #[.slice (some ⟨w.heap.size + 1, 0, none⟩) 2 2, .slice (some ⟨w.heap.size + 1 + 1, 0, none⟩) 1 1, .int .i64 1, .slice (some ⟨w.heap.size + 1 + 1 + 1 + 1, 0, none⟩) 1 1, .int .i64 1, .slice (some ⟨w.heap.size + 1 + 1 + 1 + 1 + 1, 0, none⟩) 1 1] 31)).alloc (.cells #[.int .i64 0, .int .i64 0, .int .i64 1] 99))) (by simp) _) rfl rfl (show 1 ≤ 100 by decide)
  · intro w'' hk
    refine ⟨hok, _, 2, _, 1, _, 1, _, 1, rfl, ?_, ?_, ?_, ?_, ?_, ?_, ?_, ?_⟩
    · exact ⟨Nat.le_refl _, by unfold maxLen; omega⟩
    · exact ⟨Nat.le_refl _, by unfold maxLen; omega⟩
    · exact ⟨Nat.le_refl _, by unfold maxLen; omega⟩
    · exact ⟨Nat.le_refl _, by unfold maxLen; omega⟩
    · exact row_blk (hk _ _ (by omega) (blk_al (blk_al (blk_al (blk_al (blk_at (w := (w.alloc (.cells #[.slice (some ⟨w.heap.size + 1, 0, none⟩) 2 2, .slice (some ⟨w.heap.size + 1 + 1, 0, none⟩) 1 1, .int .i64 1, .slice (some ⟨w.heap.size + 1 + 1 + 1 + 1, 0, none⟩) 1 1, .int .i64 1, .slice (some ⟨w.heap.size + 1 + 1 + 1 + 1 + 1, 0, none⟩) 1 1] 31))) (by simp) _) _) _) _) _)) rfl rfl (show 2 ≤ 100 by decide)
    · exact row_blk (hk _ _ (by omega) (blk_al (blk_al (blk_al (blk_at (w := ((w.alloc (.cells #[.slice (some ⟨w.heap.size + 1, 0, none⟩) 2 2, .slice (some ⟨w.heap.size + 1 + 1, 0, none⟩) 1 1, .int .i64 1, .slice (some ⟨w.heap.size + 1 + 1 + 1 + 1, 0, none⟩) 1 1, .int .i64 1, .slice (some ⟨w.heap.size + 1 + 1 + 1 + 1 + 1, 0, none⟩) 1 1] 31)).alloc (.cells #[.int .i64 0, .int .i64 1, .int .i64 1, .int .i64 0] 97))) (by simp) _) _) _) _)) rfl rfl (show 1 ≤ 100 by decide)
    · exact row_blk (hk _ _ (by omega) (blk_al (blk_at (w := ((((w.alloc (.cells #[.slice (some ⟨w.heap.size + 1, 0, none⟩) 2 2, .slice (some ⟨w.heap.size + 1 + 1, 0, none⟩) 1 1, .int .i64 1, .slice (some ⟨w.heap.size + 1 + 1 + 1 + 1, 0, none⟩) 1 1, .int .i64 1, .slice (some ⟨w.heap.size + 1 + 1 + 1 + 1 + 1, 0, none⟩) 1 1] 31)).alloc (.cells #[.int .i64 0, .int .i64 1, .int .i64 1, .int .i64 0] 97)).alloc (.cells #[.int .i64 2, .int .i64 0, .int .i64 1, .int .i64 wd, .int .i64 dp, .int .i64 0, .int .u32 bt] 52)).alloc (.cells #[.slice (some ⟨w.heap.size + 1, 0, none⟩) 2 2, .slice (some ⟨w.heap.size + 1 + 1, 0, none⟩) 1 1, .int .i64 1, .slice (some ⟨w.heap.size + 1 + 1 + 1 + 1, 0, none⟩) 1 1, .int .i64 1, .slice (some ⟨w.heap.size + 1 + 1 + 1 + 1 + 1, 0, none⟩) 1 1] 31))) (by simp) _) _)) rfl rfl (show 1 ≤ 100 by decide)
    · exact row_blk (hk _ _ (by omega) (blk_at (w := (((((w.alloc (.cells #[.slice (some ⟨w.heap.size + 1, 0, none⟩) 2 2, .slice (some ⟨w.heap.size + 1 + 1, 0, none⟩) 1 1, .int .i64 1, .slice (some ⟨w.heap.size + 1 + 1 + 1 + 1, 0, none⟩) 1 1, .int .i64 1, .slice (some ⟨w.heap.size + 1 + 1 + 1 + 1 + 1, 0, none⟩) 1 1] 31)).alloc (.cells #[.int .i64 0, .int .i64 1, .int .i64 1, .int .i64 0] 97)).alloc (.cells #[.int .i64 2, .int .i64 0, .int .i64 1, .int .i64 wd, .int .i64 dp, .int .i64 0, .int .u32 bt] 52)).alloc (.cells #[.slice (some ⟨w.heap.size + 1, 0, none⟩) 2 2, .slice (some ⟨w.heap.size + 1 + 1, 0, none⟩) 1 1, .int .i64 1, .slice (some ⟨w.heap.size + 1 + 1 + 1 + 1, 0, none⟩) 1 1, .int .i64 1, .slice (some ⟨w.heap.size + 1 + 1 + 1 + 1 + 1, 0, none⟩) 1 1] 31)).alloc (.cells #[.int .i64 0, .int .i64 0, .int .i64 1] 99))) (by simp) _)) rfl rfl (show 1 ≤ 100 by decide)
theorem cf12_kc {w : World} {kc : Cf12} {wd dp bt : Int} (h : CfgAt w (.agg #[.slice kc.pa 2 kc.pc, .slice (some ⟨kc.cg, kc.co, none⟩) 1 kc.cc, .int .i64 1, .slice kc.a0 1 kc.c0, .int .i64 1, .slice kc.a1 1 kc.c1]) (two12 wd dp bt)) (hi : In12 wd dp bt) : Cf12Ok w kc wd dp bt := by
  have h0 := h
  obtain ⟨ho, pa, pc, ca, cc, a0, c0, a1, c1, hv, b1, b2, b3, b4, hpr, hc, hw0, hw1⟩ := h
  obtain ⟨g, o, rfl, hg, hcc⟩ := hc.at (show 0 < 1 by decide)
  have e2 : some (Value.slice (some ⟨kc.cg, kc.co, none⟩) 1 kc.cc) = some (Value.slice (some ⟨g, o, none⟩) (two12 wd dp bt).chans.length cc) := congrArg (fun x : Array Value => x[1]?) (Value.agg.inj hv)
  simp only [Option.some.injEq, Value.slice.injEq, Addr.mk.injEq, and_true] at e2
  exact ⟨h0, by rw [e2.1.1]; exact hg, by rw [e2.1.1, e2.1.2]; exact (hcc 3 (by show 3 < 1 * 7; decide)).trans rfl, by rw [e2.1.1, e2.1.2]; exact (hcc 4 (by show 4 < 1 * 7; decide)).trans rfl, by rw [e2.1.1, e2.1.2]; exact (hcc 6 (by show 6 < 1 * 7; decide)).trans rfl, hi⟩
def cutW (w : World) (n : Nat) : World := { w with heap := w.heap.extract 0 n }
theorem cutW_size (w : World) (n : Nat) (h : n ≤ w.heap.size) : (cutW w n).heap.size = n := by
  show (w.heap.extract 0 n).size = n
  rw [Array.size_extract]
  omega
theorem cutW_blk (w : World) (n k : Nat) (hk : k < n) : (cutW w n).heap[k]? = w.heap[k]? := by
  show (w.heap.extract 0 n)[k]? = w.heap[k]?
  rw [Array.getElem?_extract]
  by_cases h : k < w.heap.size
  · rw [if_pos (by omega), Nat.zero_add]
  · rw [if_neg (by omega), Array.getElem?_eq_none (by omega)]
theorem cutW_below (w : World) (n : Nat) (h : n ≤ w.heap.size) : Below (cutW w n).heap.size (cutW w n) w := by
  rw [cutW_size w n h]
  exact ⟨rfl, rfl, rfl, by rw [cutW_size w n h]; exact h, fun k hk => (cutW_blk w n k hk).symm⟩
theorem Core.rebase {w0 w w' : World} {P B D BB : Nat} {wd dp : Int} {z : Rs} {OS OR : Nat} {S R : Nat → Prop} {x : List Bool} (h : Core w0 w P B D BB wd dp z OS OR S R x) {X : Nat → Prop} (ho : Only X w w') (hX : ∀ k, X k → ¬ S k ∧ ¬ R k ∧ k ≠ B ∧ k ≠ D ∧ k ≠ BB) : Core (cutW w' w0.heap.size) w' P B D BB wd dp z OS OR S R x := by
  have h0 := h.low.size
  have hs := cutW_size w' w0.heap.size (Nat.le_trans h0 ho.size)
  exact {
    s1 := fun e => (h.s1 e).imp fun own h => h.imp fun QB h => h.imp fun OBB h => h.imp fun g h => h.imp fun cap h => h.imp fun ps h => h.keep fun b o hb hbo => ho.blk hbo fun hx => (hX b hx).1 hb
    r1 := fun e => (h.r1 e).imp fun own h => h.imp fun QB h => h.imp fun OBB h => h.imp fun DB h => h.imp fun EB h => h.imp fun WB h => h.imp fun bs h => ⟨h.1, h.2.keep ho.size fun b o hb hbo => ho.blk hbo fun hx => (hX b hx).2.1 hb⟩
    mem := ⟨ho.blk h.mem.head fun hx => (hX _ hx).2.2.1 rfl, ho.blk h.mem.words fun hx => (hX _ hx).2.2.2.1 rfl, h.mem.len⟩
    bell := h.bell.imp fun b hb => ⟨ho.blk hb.1 fun hx => (hX _ hx).2.2.2.2 rfl, hb.2⟩
    xl := h.xl
    words := h.words
    len := h.len
    sS := fun k hk => have h1 := h.sS k hk; ⟨by rw [hs]; exact h1.1, Nat.lt_of_lt_of_le h1.2.1 ho.size, h1.2.2⟩
    sR := fun k hk => have h1 := h.sR k hk; ⟨by rw [hs]; exact h1.1, Nat.lt_of_lt_of_le h1.2.1 ho.size, h1.2.2⟩
    ge := by rw [hs]; exact h.ge
    low := cutW_below w' _ (Nat.le_trans h0 ho.size) }
theorem Run.only {w0 w w' : World} {P B D BB : Nat} {kc : Cf12} {wd dp b : Int} {z : Rs} {OS OR : Nat} {S R : Nat → Prop} {st ow : Nat} {sv rv : Value} {x : List Bool} {k : Nat} (h : Run w0 w P B D BB kc wd dp b z OS OR S R st ow sv rv x k) {X : Nat → Prop} (ho : Only X w w') (hX : ∀ k, X k → w0.heap.size ≤ k ∧ ¬ S k ∧ ¬ R k ∧ k ≠ P ∧ k ≠ B ∧ k ≠ D ∧ k ≠ BB) (k' : Nat) (hk : k ≤ k') : Run w0 w' P B D BB kc wd dp b z OS OR S R st ow sv rv x k' :=
  ⟨⟨ho.blk h.pl.blk fun hx => (hX _ hx).2.2.2.1 rfl, h.pl.s0, h.pl.s1, h.pl.r0, h.pl.r1, h.pl.core.only ho fun k hk => have h1 := hX k hk; ⟨h1.1, h1.2.1, h1.2.2.1, h1.2.2.2.2⟩, h.pl.pl⟩, h.jr, Nat.le_trans h.le hk⟩
theorem Run.rebase {w0 w w' : World} {P B D BB : Nat} {kc : Cf12} {wd dp b : Int} {z : Rs} {OS OR : Nat} {S R : Nat → Prop} {st ow : Nat} {sv rv : Value} {x : List Bool} {k : Nat} (h : Run w0 w P B D BB kc wd dp b z OS OR S R st ow sv rv x k) {X : Nat → Prop} (ho : Only X w w') (hX : ∀ k, X k → ¬ S k ∧ ¬ R k ∧ k ≠ P ∧ k ≠ B ∧ k ≠ D ∧ k ≠ BB) (k' : Nat) (hk : k ≤ k') : Run (cutW w' w0.heap.size) w' P B D BB kc wd dp b z OS OR S R st ow sv rv x k' :=
  ⟨⟨ho.blk h.pl.blk fun hx => (hX _ hx).2.2.1 rfl, h.pl.s0, h.pl.s1, h.pl.r0, h.pl.r1, h.pl.core.rebase ho fun k hk => have h1 := hX k hk; ⟨h1.1, h1.2.1, h1.2.2.2⟩, by rw [cutW_size w' _ (Nat.le_trans h.pl.core.low.size ho.size)]; exact h.pl.pl⟩, h.jr, Nat.le_trans h.le hk⟩
set_option maxRecDepth 100000 in
theorem eq_nil12 {OS : Nat} {on : Bool} {sv : Value} (h0 : on = false → sv = .pointer none) (h1 : on = true → sv = .pointer (some ⟨OS, 0, none⟩)) (w : World) : (binOp .eql 75 sv (.pointer none)).run Tryz.prog w = .ok (.bool (!on)) w := by
  cases on with
  | true => rw [h1 rfl]; kernel_rfl
  | false => rw [h0 rfl]; kernel_rfl
set_option maxRecDepth 100000 in
theorem eg_nil12 {OS : Nat} {on : Bool} {sv : Value} (h0 : on = false → sv = .pointer none) (h1 : on = true → sv = .pointer (some ⟨OS, 0, none⟩)) (p q : Operand) (w : World) : (eqGuard .eql 75 p q sv (.pointer none)).run Tryz.prog w = .ok () w := by
  cases on with
  | true => rw [h1 rfl]; rfl
  | false => rw [h0 rfl]; rfl
end Go.Proofs.YtmidcnfmphlneaaGreat

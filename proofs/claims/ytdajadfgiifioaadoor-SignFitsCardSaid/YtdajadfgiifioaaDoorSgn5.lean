/- Contracts: the rows of refusals. -/
import Derived.Test.YtdajadfgiifioaaDoorSgn4
import Derived.Laws.EntriesVeiled
import Derived.Laws.IdiomStrings
namespace Go.Proofs.YtdajadfgiifioaaDoor
open Go.RowKit
set_option linter.unusedSimpArgs false
set_option linter.unusedVariables false

def opsS : Nat → ByteArray
  | 0 => ⟨#[49]⟩
  | 1 => ⟨#[49]⟩
  | 2 => ⟨#[49, 50]⟩
  | 3 => ⟨#[51, 52, 53, 54, 55]⟩
  | 4 => ⟨#[51, 52, 53, 54, 55]⟩
  | 5 => ⟨#[51]⟩
  | 6 => ⟨#[52]⟩
  | 7 => ⟨#[53]⟩
  | 8 => ⟨#[54]⟩
  | 9 => ⟨#[51, 53]⟩
  | 10 => ⟨#[51, 53]⟩
  | 11 => ⟨#[57]⟩
  | 12 => ⟨#[56, 57]⟩
  | _ => ByteArray.empty
def bytesI (s : ByteArray) : List Int := s.data.toList.map fun b => (b.toNat : Int)
theorem opsS_ops (k : Nat) (hk : k < 13) (op : Int) (h1 : 1 ≤ op) (h9 : op ≤ 9) : (bytesI (opsS k)).contains (48 + op) = (opsR k).contains op := by
  have h : op = 1 ∨ op = 2 ∨ op = 3 ∨ op = 4 ∨ op = 5 ∨ op = 6 ∨ op = 7 ∨ op = 8 ∨ op = 9 := by omega
  have hq : k = 0 ∨ k = 1 ∨ k = 2 ∨ k = 3 ∨ k = 4 ∨ k = 5 ∨ k = 6 ∨ k = 7 ∨ k = 8 ∨ k = 9 ∨ k = 10 ∨ k = 11 ∨ k = 12 := by omega
  rcases hq with rfl | rfl | rfl | rfl | rfl | rfl | rfl | rfl | rfl | rfl | rfl | rfl | rfl <;> rcases h with rfl | rfl | rfl | rfl | rfl | rfl | rfl | rfl | rfl <;> rfl
theorem opsS_size (k : Nat) (hk : k < 13) : (opsS k).size ≤ 5 := by
  have hq : k = 0 ∨ k = 1 ∨ k = 2 ∨ k = 3 ∨ k = 4 ∨ k = 5 ∨ k = 6 ∨ k = 7 ∨ k = 8 ∨ k = 9 ∨ k = 10 ∨ k = 11 ∨ k = 12 := by omega
  rcases hq with rfl | rfl | rfl | rfl | rfl | rfl | rfl | rfl | rfl | rfl | rfl | rfl | rfl <;> decide
theorem row_bytes (w : World) (s : ByteArray) (cap : Nat) (t : TypeId) (fz : Nat × Nat) (h : s.size ≤ cap) (hm : cap ≤ maxLen) : RowAt (w.alloc (.cells (bytesRow s cap) t fz)) 1 (.slice (some ⟨w.heap.size, 0, none⟩) s.size cap) (bytesI s).length ((bytesI s).map (Value.int .u8)) := by
  have hl : (bytesI s).length = s.size := by rw [bytesI, List.length_map, Array.length_toList]; rfl
  rw [hl]
  refine ⟨by rw [List.length_map, hl, Nat.mul_one], .inr ⟨w.heap.size, 0, cap, rfl, h, hm, by simp, fun i hi => ?_⟩⟩
  rw [Nat.mul_one] at hi
  have hi2 : i < s.data.size := hi
  rw [Nat.zero_add, World.cell?_alloc_mark, bytesRow_at s cap i hi2]
  rw [List.getElem?_map, bytesI, List.getElem?_map, Array.getElem?_toList, Array.getElem?_eq_getElem hi2]
  rfl
/-- '[]byte(s)': the row and the world behind it under names. -/
theorem wpList_bytes {P : Program} {ops : Array Oper} {rest : List Oper} {op : Oper} {a : Act} {w : World} {Q : Exit → Act → World → Prop} (hgd : op.guard = none) (src dst : TypeId) (x : Operand) (ho : op.op = .convert src dst x)
    (s : ByteArray) (hx : a.eval x = .string s) (e : TypeId) (hs : P.underlying src = some .string) (hd : P.underlying dst = some (.slice e)) (he : P.underlying e = some (.int .u8)) (hm : s.size ≤ maxLen)
    (h : ∀ cap w', RowAt w' 1 (.slice (some ⟨w.heap.size, 0, none⟩) s.size cap) (bytesI s).length ((bytesI s).map (Value.int .u8)) → Below w.heap.size w w' → wpList P ops Q rest (a.put op.dst (.slice (some ⟨w.heap.size, 0, none⟩) s.size cap)) w') : wpList P ops Q (op :: rest) a w :=
  wpList_plain hgd fun K hK => by
    unfold Oper.wp execOp
    simp only [ho, hx, Sem.run_bind, Sem.run_pure, Result.andThen_ok, run_bytes_of_string w src dst e s hs hd he]
    exact hK _ _ (h (grownCap w s.size 0 e) _ (row_bytes w.drew s (grownCap w s.size 0 e) e _ (grownCap_ge w s.size 0 e) (grownCap_le_maxLen w s.size 0 e hm)) (below_al (below_dr (Below.refl _ _)) _))
/-- A row's closure: whether it holds, of every 'asked' that lies in memory. -/
def RowOk (k : Nat) (w : World) (f : Value) : Prop := ∃ bs : List Nat, (∀ b, b ∈ bs → b < w.heap.size) ∧ ∃ fn caps, f = .func (.func fn) #[] caps ∧ Enters fn ∧
  ∀ w1 v C S R x src own, KeepB bs w w1 → AskAt w1 v C S R x src own → C.small → S.made.length ≤ 100 → R.data.length ≤ 100 → Calls Tryd.prog fn (#[v] ++ caps) w1 fun e w' => e = .returned (.bool (holdR (askD C S R x src own) k)) ∧ Below w1.heap.size w1 w'
theorem RowOk.below {k : Nat} {w w1 : World} {f : Value} (h : RowOk k w f) (hb : Below w.heap.size w w1) : RowOk k w1 f := by
  obtain ⟨bs, h0, fn, caps, h1, h2, h3⟩ := h
  exact ⟨bs, fun b hm => Nat.lt_of_lt_of_le (h0 b hm) hb.size, fn, caps, h1, h2, fun w2 v C S R x src own hk => h3 w2 v C S R x src own (fun b hm => (hk b hm).trans (hb.block b (h0 b hm)))⟩
theorem rowOk_plain (k : Nat) (w : World) (fn : FuncId) (hE : Enters fn) (h : ∀ v C S R x src own, C.small → S.made.length ≤ 100 → R.data.length ≤ 100 → ∀ w1, AskAt w1 v C S R x src own → Calls Tryd.prog fn #[v] w1 fun e w' => e = .returned (.bool (holdR (askD C S R x src own) k)) ∧ Below w1.heap.size w1 w') : RowOk k w (.func (.func fn) #[] #[]) :=
  ⟨[], by simp, fn, #[], rfl, hE, fun w1 v C S R x src own _ ha h1 h2 h3 => h v C S R x src own h1 h2 h3 w1 ha⟩
/-- The rows, in block B. -/
def RowsAt (w : World) (B : Nat) : Prop := ∃ fs : Array Value, w.heap[B]? = some (.cells fs 79 (0, 0)) ∧ ∀ k, k < 13 → ∃ f, fs[k * 3]? = some (.string (opsS k)) ∧ fs[k * 3 + 1]? = some f ∧ fs[k * 3 + 2]? = some (.int .i64 (codeR k)) ∧ RowOk k w f
theorem RowsAt.below {w w1 : World} {B : Nat} (h : RowsAt w B) (hb : Below w.heap.size w w1) : RowsAt w1 B := by
  obtain ⟨fs, h1, h2⟩ := h
  exact ⟨fs, blk_below h1 hb, fun k hk => by
    obtain ⟨f, h3, h4, h5, h6⟩ := h2 k hk
    exact ⟨f, h3, h4, h5, h6.below hb⟩⟩
theorem entersNot : Enters 50 := enters_at Tryd.func50 (by kernel_rfl) rfl
theorem entersS0 : Enters 52 := enters_at Tryd.func52 (by kernel_rfl) rfl
theorem entersS1 : Enters 53 := enters_at Tryd.func53 (by kernel_rfl) rfl
theorem entersS2 : Enters 54 := enters_at Tryd.func54 (by kernel_rfl) rfl
theorem entersS3 : Enters 55 := enters_at Tryd.func55 (by kernel_rfl) rfl
theorem entersS4 : Enters 56 := enters_at Tryd.func56 (by kernel_rfl) rfl
theorem entersS9 : Enters 57 := enters_at Tryd.func57 (by kernel_rfl) rfl
theorem entersS10 : Enters 58 := enters_at Tryd.func58 (by kernel_rfl) rfl
theorem entersS11 : Enters 59 := enters_at Tryd.func59 (by kernel_rfl) rfl
theorem entersS12 : Enters 60 := enters_at Tryd.func60 (by kernel_rfl) rfl

set_option maxHeartbeats 1000000 in
theorem not_any (kind : Int) (s : Bool) (w : World) : Calls Tryd.prog 49 #[.int .i64 kind, .bool s] w fun e w' => e = .returned (.func (.func 50) #[] #[.pointer (some ⟨w.heap.size, 0, none⟩), .pointer (some ⟨w.heap.size + 1, 0, none⟩)]) ∧
    Kp (w'.heap[w.heap.size]? = some (.cells #[.int .i64 kind] 3 (0, 0))) ∧ Kp (w'.heap[w.heap.size + 1]? = some (.cells #[.bool s] 4 (0, 0))) ∧ Below w.heap.size w w' := by
  go_enter Tryd.func49, Tryd.ntmps49
  go_wp2
  go_ret
  exact ⟨rfl, ⟨blk_al (blk_new w _) _⟩, ⟨blk_at (w := w.alloc _) (by simp) _⟩, below_al (below_al (Below.refl _ _) _) _⟩
theorem rowOk_not (k : Nat) (kind : Int) (s : Bool) (hk : ∀ C S R (x : Chn) (src own : Bool), holdR (askD C S R x src own) k = !((x.kind == kind) && (src == s))) (w : World) (kb sb : Nat) (h1 : w.heap[kb]? = some (.cells #[.int .i64 kind] 3 (0, 0))) (h2 : w.heap[sb]? = some (.cells #[.bool s] 4 (0, 0))) :
    RowOk k w (.func (.func 50) #[] #[.pointer (some ⟨kb, 0, none⟩), .pointer (some ⟨sb, 0, none⟩)]) :=
  ⟨[kb, sb], fun b hm => by
    simp only [List.mem_cons, List.not_mem_nil, or_false] at hm
    rcases hm with rfl | rfl
    · exact blk_lt h1
    · exact blk_lt h2, 50, _, rfl, entersNot, fun w1 v C S R x src own hK ha c1 c2 c3 => by
    rw [hk]
    exact not11_any v C S R x src own c1 c2 c3 kind s _ rfl kb sb w1 ha ((hK kb (by simp)).trans h1) ((hK sb (by simp)).trans h2)⟩
theorem hold5 (C : Cfg) (S : Std) (R : Rqt) (x : Chn) (src own : Bool) : holdR (askD C S R x src own) 5 = !((x.kind == 1) && (src == true)) := by cases src <;> rfl
theorem hold6 (C : Cfg) (S : Std) (R : Rqt) (x : Chn) (src own : Bool) : holdR (askD C S R x src own) 6 = !((x.kind == 1) && (src == false)) := by cases src <;> rfl
theorem hold7 (C : Cfg) (S : Std) (R : Rqt) (x : Chn) (src own : Bool) : holdR (askD C S R x src own) 7 = !((x.kind == 2) && (src == true)) := by cases src <;> rfl
theorem hold8 (C : Cfg) (S : Std) (R : Rqt) (x : Chn) (src own : Bool) : holdR (askD C S R x src own) 8 = !((x.kind == 2) && (src == false)) := by cases src <;> rfl

set_option maxRecDepth 100000 in
set_option maxHeartbeats 4000000 in
theorem rows_any (w : World) : Calls Tryd.prog 30 #[] w fun e w' => ∃ B, e = .returned (.slice (some ⟨B, 0, none⟩) 13 13) ∧ Kp (RowsAt w' B) ∧ Below w.heap.size w w' ∧ w.heap.size ≤ B := by
  go_enter Tryd.func30, Tryd.ntmps30
  go_wp2_with fail
  refine (not_any 1 true _).mono ?_
  rintro e w1 ⟨rfl, ka1, kb1, hb1⟩
  have B1 := Kp.mk hb1
  clear hb1
  go_wp2_with fail
  refine (not_any 1 false _).mono ?_
  rintro e w2 ⟨rfl, ka2, kb2, hb2⟩
  have B2 := Kp.mk hb2
  clear hb2
  go_wp2_with fail
  refine (not_any 2 true _).mono ?_
  rintro e w3 ⟨rfl, ka3, kb3, hb3⟩
  have B3 := Kp.mk hb3
  clear hb3
  go_wp2_with fail
  refine (not_any 2 false _).mono ?_
  rintro e w4 ⟨rfl, ka4, kb4, hb4⟩
  have B4 := Kp.mk hb4
  clear hb4
  go_wp2
  go_ret
  obtain ⟨cs, hcs⟩ : ∃ cs : Array Value, #[.string ⟨#[49]⟩, .func (.func 52) #[] #[], .int .i64 4, .string ⟨#[49]⟩, .func (.func 53) #[] #[], .int .i64 1, .string ⟨#[49, 50]⟩, .func (.func 54) #[] #[], .int .i64 5, .string ⟨#[51, 52, 53, 54, 55]⟩, .func (.func 55) #[] #[], .int .i64 3, .string ⟨#[51, 52, 53, 54, 55]⟩, .func (.func 56) #[] #[], .int .i64 5, .string ⟨#[51]⟩, .func (.func 50) #[] #[.pointer (some ⟨w.heap.size, 0, none⟩), .pointer (some ⟨w.heap.size + 1, 0, none⟩)], .int .i64 5, .string ⟨#[52]⟩, .func (.func 50) #[] #[.pointer (some ⟨w1.heap.size, 0, none⟩), .pointer (some ⟨w1.heap.size + 1, 0, none⟩)], .int .i64 5, .string ⟨#[53]⟩, .func (.func 50) #[] #[.pointer (some ⟨w2.heap.size, 0, none⟩), .pointer (some ⟨w2.heap.size + 1, 0, none⟩)], .int .i64 5, .string ⟨#[54]⟩, .func (.func 50) #[] #[.pointer (some ⟨w3.heap.size, 0, none⟩), .pointer (some ⟨w3.heap.size + 1, 0, none⟩)], .int .i64 5, .string ⟨#[51, 53]⟩, .func (.func 57) #[] #[], .int .i64 3, .string ⟨#[51, 53]⟩, .func (.func 58) #[] #[], .int .i64 4, .string ⟨#[57]⟩, .func (.func 59) #[] #[], .int .i64 3, .string ⟨#[56, 57]⟩, .func (.func 60) #[] #[], .int .i64 6] = cs := ⟨_, rfl⟩
  have T4 : Kp (Below w4.heap.size w4 (w4.alloc (.cells cs 79))) := ⟨below_al (Below.refl _ _) _⟩
  have T3 : Kp (Below w3.heap.size w3 (w4.alloc (.cells cs 79))) := ⟨below_call B4.out T4.out⟩
  have T2 : Kp (Below w2.heap.size w2 (w4.alloc (.cells cs 79))) := ⟨below_call B3.out T3.out⟩
  have T1 : Kp (Below w1.heap.size w1 (w4.alloc (.cells cs 79))) := ⟨below_call B2.out T2.out⟩
  have T0 : Kp (Below w.heap.size w (w4.alloc (.cells cs 79))) := ⟨below_call B1.out T1.out⟩
  have hsz : w.heap.size ≤ w4.heap.size := by have b1 := B1.out.size; have b2 := B2.out.size; have b3 := B3.out.size; have b4 := B4.out.size; omega
  rw [hcs]
  refine ⟨_, rfl, ⟨cs, blk_new _ _, fun k hk => ?_⟩, T0.out, hsz⟩
  subst hcs
  exact match k, hk with
    | 0, _ => ⟨_, rfl, rfl, rfl, rowOk_plain 0 _ 52 entersS0 (fun v C S R x src own h1 h2 h3 w1 ha => row0_any v C S R x src own h1 h2 h3 w1 ha)⟩
    | 1, _ => ⟨_, rfl, rfl, rfl, rowOk_plain 1 _ 53 entersS1 (fun v C S R x src own h1 h2 h3 w1 ha => row1_any v C S R x src own h1 h2 h3 w1 ha)⟩
    | 2, _ => ⟨_, rfl, rfl, rfl, rowOk_plain 2 _ 54 entersS2 (fun v C S R x src own h1 h2 h3 w1 ha => row2_any v C S R x src own h1 h2 h3 w1 ha)⟩
    | 3, _ => ⟨_, rfl, rfl, rfl, rowOk_plain 3 _ 55 entersS3 (fun v C S R x src own h1 h2 h3 w1 ha => row3_any v C S R x src own h1 h2 h3 w1 ha)⟩
    | 4, _ => ⟨_, rfl, rfl, rfl, rowOk_plain 4 _ 56 entersS4 (fun v C S R x src own h1 h2 h3 w1 ha => row4_any v C S R x src own h1 h2 h3 w1 ha)⟩
    | 5, _ => ⟨_, rfl, rfl, rfl, rowOk_not 5 1 true hold5 _ _ _ (blk_below ka1.out T1.out) (blk_below kb1.out T1.out)⟩
    | 6, _ => ⟨_, rfl, rfl, rfl, rowOk_not 6 1 false hold6 _ _ _ (blk_below ka2.out T2.out) (blk_below kb2.out T2.out)⟩
    | 7, _ => ⟨_, rfl, rfl, rfl, rowOk_not 7 2 true hold7 _ _ _ (blk_below ka3.out T3.out) (blk_below kb3.out T3.out)⟩
    | 8, _ => ⟨_, rfl, rfl, rfl, rowOk_not 8 2 false hold8 _ _ _ (blk_below ka4.out T4.out) (blk_below kb4.out T4.out)⟩
    | 9, _ => ⟨_, rfl, rfl, rfl, rowOk_plain 9 _ 57 entersS9 (fun v C S R x src own h1 h2 h3 w1 ha => row9_any v C S R x src own h1 h2 h3 w1 ha)⟩
    | 10, _ => ⟨_, rfl, rfl, rfl, rowOk_plain 10 _ 58 entersS10 (fun v C S R x src own h1 h2 h3 w1 ha => row10_any v C S R x src own h1 h2 h3 w1 ha)⟩
    | 11, _ => ⟨_, rfl, rfl, rfl, rowOk_plain 11 _ 59 entersS11 (fun v C S R x src own h1 h2 h3 w1 ha => row11_any v C S R x src own h1 h2 h3 w1 ha)⟩
    | 12, _ => ⟨_, rfl, rfl, rfl, rowOk_plain 12 _ 60 entersS12 (fun v C S R x src own h1 h2 h3 w1 ha => row12_any v C S R x src own h1 h2 h3 w1 ha)⟩
    | k + 13, hk => absurd hk (by omega)
end Go.Proofs.YtdajadfgiifioaaDoor

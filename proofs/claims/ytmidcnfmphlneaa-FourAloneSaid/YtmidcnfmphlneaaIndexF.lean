/- Contracts of slices.IndexFunc and slices.ContainsFunc, at rows of a configuration. -/
import Derived.Test.YtmidcnfmphlneaaCfg
namespace Go.Proofs.Ytmidcnfmphlneaa
open Go.RowKit
set_option linter.unusedSimpArgs false
set_option linter.unusedVariables false

/-- A function of the program that is entered when it is called. -/
structure Enters (fn : FuncId) : Prop where
  out : ∀ (args : Array Value) (w : World), (callFunc fn args).run Try.prog w = .ok (.enter fn args) w
theorem enters_at {f : FuncId} {fn : Func} {c : Code} (hf : Try.prog.funcs[f]? = some fn) (hname : (fn.name == "runtime.NumGoroutine") = false) (hb : fn.body = some c) : Enters f := ⟨fun args w => by
  have h1 : fn.name ≠ "runtime.NumGoroutine" := by simpa using hname
  simp [callFunc, hf, h1, hb]⟩

set_option maxRecDepth 100000 in
set_option maxHeartbeats 2000000 in
theorem partIndex_any (l : List (Int × Int)) (a : Option Addr) (cap : Nat) (fn : FuncId) (caps : Array Value) (p : Int × Int → Bool) (w : World) (h : RowAt w 2 (.slice a l.length cap) l.length (l.flatMap partC)) (hl : l.length ≤ 200)
    (hE : Enters fn) (hf : ∀ w1, Below w.heap.size w w1 → ∀ x ∈ l, Calls Try.prog fn (#[.agg #[.int .i64 x.1, .int .i64 x.2]] ++ caps) w1 fun e w' => e = .returned (.bool (p x)) ∧ Below w1.heap.size w1 w') :
    Calls Try.prog 101 #[.slice a l.length cap, .func (.func fn) #[] caps] w fun e w' => ∃ r : Int, e = .returned (.int .i64 r) ∧ Kp (decide (0 ≤ r) = l.any p) ∧ Below w.heap.size w w' := by
  have H1 := Kp.mk h
  have HF := Kp.mk hf
  have hE' := hE.out
  clear h hf hE
  go_enter Try.func101, Try.ntmps101
  go_wp2_with fail
  go_loopw [8] (fun i wr => ∃ k : Nat, k ≤ l.length ∧ i = .int .i64 k ∧ Kp (Below w.heap.size w wr) ∧ Kp ((l.take k).any p = false)) (fun i wr => l.length - (intOf i).toNat)
  case atStart => exact ⟨0, Nat.zero_le _, rfl, ⟨Below.refl _ _⟩, ⟨rfl⟩⟩
  case round =>
    obtain ⟨k, hk, rfl, HB, HN⟩ := hrel
    by_cases hlt : k < l.length
    · obtain ⟨g, o, rfl, hg, hc⟩ := H1.out.at (by omega)
      have hcell : ∀ j, j < 2 → wr.cell? ⟨g, o + k * 2 + j, none⟩ = (partC l[k])[j]? := fun j hj => by
        have h1 := hc (k * 2 + j) (by omega)
        rw [flat_at partC 2 partC_len l k j hlt hj] at h1
        rw [Nat.add_assoc]
        exact (HB.out.cell (p := ⟨g, o + (k * 2 + j), none⟩) hg).trans h1
      have e0 : wr.cell? ⟨g, o + k * 2, none⟩ = some (.int .i64 l[k].1) := hcell 0 (by omega)
      have e1 : wr.cell? ⟨g, o + k * 2 + 1, none⟩ = some (.int .i64 l[k].2) := hcell 1 (by omega)
      have HC := Kp.mk (HF.out wr HB.out l[k] (List.getElem_mem hlt))
      obtain ⟨x, hx⟩ : ∃ x, l[k] = x := ⟨_, rfl⟩
      have HA : Kp ((l.take (k + 1)).any p = ((l.take k).any p || p x)) := ⟨by rw [List.take_succ_eq_append_getElem hlt, List.any_append, hx]; simp⟩
      have HX : Kp (x ∈ l) := ⟨hx ▸ List.getElem_mem hlt⟩
      rw [hx] at HC e0 e1
      clear hc hcell hx
      go_wp2_with fail
      refine HC.out.mono ?_
      cases hp : p x with
      | true =>
        rintro e w1 ⟨rfl, hb1⟩
        have HB1 := Kp.mk (below_call HB.out hb1)
        clear hb1
        go_wp2
        go_ret
        exact ⟨_, rfl, ⟨by
          rw [decide_eq_true (by omega)]
          exact (List.any_eq_true.2 ⟨x, HX.out, hp⟩).symm⟩, HB1.out⟩
      | false =>
        rintro e w1 ⟨rfl, hb1⟩
        have HB1 := Kp.mk (below_call HB.out hb1)
        clear hb1
        have HN1 : Kp ((l.take (k + 1)).any p = false) := ⟨by rw [HA.out, HN.out, hp]; rfl⟩
        go_wp2
        go_roundw
        case rel => exact ⟨k + 1, by omega, by go_num, HB1, HN1⟩
        case measure => simp [intOf]; omega
    · obtain rfl : k = l.length := by omega
      have HN' := HN.out
      rw [List.take_length] at HN'
      have HN2 := Kp.mk HN'
      clear HN'
      go_wp2
      go_ret
      exact ⟨_, rfl, ⟨by rw [HN2.out]; rfl⟩, HB.out⟩

set_option maxHeartbeats 400000 in
theorem partContains_any (l : List (Int × Int)) (a : Option Addr) (cap : Nat) (fn : FuncId) (caps : Array Value) (p : Int × Int → Bool) (b : Bool) (hb : l.any p = b) (w : World) (h : RowAt w 2 (.slice a l.length cap) l.length (l.flatMap partC)) (hl : l.length ≤ 200)
    (hE : Enters fn) (hf : ∀ w1, Below w.heap.size w w1 → ∀ x ∈ l, Calls Try.prog fn (#[.agg #[.int .i64 x.1, .int .i64 x.2]] ++ caps) w1 fun e w' => e = .returned (.bool (p x)) ∧ Below w1.heap.size w1 w') :
    Calls Try.prog 90 #[.slice a l.length cap, .func (.func fn) #[] caps] w fun e w' => e = .returned (.bool b) ∧ Below w.heap.size w w' := by
  go_enter Try.func90, Try.ntmps90
  go_wp2_with fail
  refine (partIndex_any l a cap fn caps p _ h hl hE hf).mono ?_
  rintro e w1 ⟨r, rfl, hr, hb1⟩
  go_wp2
  go_ret
  exact ⟨ret_bool (hr.out.trans hb), hb1⟩

set_option maxRecDepth 100000 in
set_option maxHeartbeats 2000000 in
theorem chanIndex_any (l : List (Chn)) (a : Option Addr) (cap : Nat) (fn : FuncId) (caps : Array Value) (p : Chn → Bool) (w : World) (h : RowAt w 7 (.slice a l.length cap) l.length (l.flatMap chanC)) (hl : l.length ≤ 200)
    (hE : Enters fn) (hf : ∀ w1, Below w.heap.size w w1 → ∀ x ∈ l, Calls Try.prog fn (#[.agg #[.int .i64 x.kind, .int .i64 x.frm, .int .i64 x.to, .int .i64 x.words, .int .i64 x.depth, .int .i64 x.period, .int .u32 x.boot]] ++ caps) w1 fun e w' => e = .returned (.bool (p x)) ∧ Below w1.heap.size w1 w') :
    Calls Try.prog 102 #[.slice a l.length cap, .func (.func fn) #[] caps] w fun e w' => ∃ r : Int, e = .returned (.int .i64 r) ∧ Kp (decide (0 ≤ r) = l.any p) ∧ Below w.heap.size w w' := by
  have H1 := Kp.mk h
  have HF := Kp.mk hf
  have hE' := hE.out
  clear h hf hE
  go_enter Try.func102, Try.ntmps102
  go_wp2_with fail
  go_loopw [8] (fun i wr => ∃ k : Nat, k ≤ l.length ∧ i = .int .i64 k ∧ Kp (Below w.heap.size w wr) ∧ Kp ((l.take k).any p = false)) (fun i wr => l.length - (intOf i).toNat)
  case atStart => exact ⟨0, Nat.zero_le _, rfl, ⟨Below.refl _ _⟩, ⟨rfl⟩⟩
  case round =>
    obtain ⟨k, hk, rfl, HB, HN⟩ := hrel
    by_cases hlt : k < l.length
    · obtain ⟨g, o, rfl, hg, hc⟩ := H1.out.at (by omega)
      have hcell : ∀ j, j < 7 → wr.cell? ⟨g, o + k * 7 + j, none⟩ = (chanC l[k])[j]? := fun j hj => by
        have h1 := hc (k * 7 + j) (by omega)
        rw [flat_at chanC 7 chanC_len l k j hlt hj] at h1
        rw [Nat.add_assoc]
        exact (HB.out.cell (p := ⟨g, o + (k * 7 + j), none⟩) hg).trans h1
      have e0 : wr.cell? ⟨g, o + k * 7, none⟩ = some (.int .i64 l[k].kind) := hcell 0 (by omega)
      have e1 : wr.cell? ⟨g, o + k * 7 + 1, none⟩ = some (.int .i64 l[k].frm) := hcell 1 (by omega)
      have e2 : wr.cell? ⟨g, o + k * 7 + 2, none⟩ = some (.int .i64 l[k].to) := hcell 2 (by omega)
      have e3 : wr.cell? ⟨g, o + k * 7 + 3, none⟩ = some (.int .i64 l[k].words) := hcell 3 (by omega)
      have e4 : wr.cell? ⟨g, o + k * 7 + 4, none⟩ = some (.int .i64 l[k].depth) := hcell 4 (by omega)
      have e5 : wr.cell? ⟨g, o + k * 7 + 5, none⟩ = some (.int .i64 l[k].period) := hcell 5 (by omega)
      have e6 : wr.cell? ⟨g, o + k * 7 + 6, none⟩ = some (.int .u32 l[k].boot) := hcell 6 (by omega)
      have HC := Kp.mk (HF.out wr HB.out l[k] (List.getElem_mem hlt))
      obtain ⟨x, hx⟩ : ∃ x, l[k] = x := ⟨_, rfl⟩
      have HA : Kp ((l.take (k + 1)).any p = ((l.take k).any p || p x)) := ⟨by rw [List.take_succ_eq_append_getElem hlt, List.any_append, hx]; simp⟩
      have HX : Kp (x ∈ l) := ⟨hx ▸ List.getElem_mem hlt⟩
      rw [hx] at HC e0 e1 e2 e3 e4 e5 e6
      clear hc hcell hx
      go_wp2_with fail
      refine HC.out.mono ?_
      cases hp : p x with
      | true =>
        rintro e w1 ⟨rfl, hb1⟩
        have HB1 := Kp.mk (below_call HB.out hb1)
        clear hb1
        go_wp2
        go_ret
        exact ⟨_, rfl, ⟨by
          rw [decide_eq_true (by omega)]
          exact (List.any_eq_true.2 ⟨x, HX.out, hp⟩).symm⟩, HB1.out⟩
      | false =>
        rintro e w1 ⟨rfl, hb1⟩
        have HB1 := Kp.mk (below_call HB.out hb1)
        clear hb1
        have HN1 : Kp ((l.take (k + 1)).any p = false) := ⟨by rw [HA.out, HN.out, hp]; rfl⟩
        go_wp2
        go_roundw
        case rel => exact ⟨k + 1, by omega, by go_num, HB1, HN1⟩
        case measure => simp [intOf]; omega
    · obtain rfl : k = l.length := by omega
      have HN' := HN.out
      rw [List.take_length] at HN'
      have HN2 := Kp.mk HN'
      clear HN'
      go_wp2
      go_ret
      exact ⟨_, rfl, ⟨by rw [HN2.out]; rfl⟩, HB.out⟩

set_option maxHeartbeats 400000 in
theorem chanContains_any (l : List (Chn)) (a : Option Addr) (cap : Nat) (fn : FuncId) (caps : Array Value) (p : Chn → Bool) (b : Bool) (hb : l.any p = b) (w : World) (h : RowAt w 7 (.slice a l.length cap) l.length (l.flatMap chanC)) (hl : l.length ≤ 200)
    (hE : Enters fn) (hf : ∀ w1, Below w.heap.size w w1 → ∀ x ∈ l, Calls Try.prog fn (#[.agg #[.int .i64 x.kind, .int .i64 x.frm, .int .i64 x.to, .int .i64 x.words, .int .i64 x.depth, .int .i64 x.period, .int .u32 x.boot]] ++ caps) w1 fun e w' => e = .returned (.bool (p x)) ∧ Below w1.heap.size w1 w') :
    Calls Try.prog 92 #[.slice a l.length cap, .func (.func fn) #[] caps] w fun e w' => e = .returned (.bool b) ∧ Below w.heap.size w w' := by
  go_enter Try.func92, Try.ntmps92
  go_wp2_with fail
  refine (chanIndex_any l a cap fn caps p _ h hl hE hf).mono ?_
  rintro e w1 ⟨r, rfl, hr, hb1⟩
  go_wp2
  go_ret
  exact ⟨ret_bool (hr.out.trans hb), hb1⟩

set_option maxRecDepth 100000 in
set_option maxHeartbeats 2000000 in
theorem winIndex_any (l : List (Win)) (a : Option Addr) (cap : Nat) (fn : FuncId) (caps : Array Value) (p : Win → Bool) (w : World) (h : RowAt w 3 (.slice a l.length cap) l.length (l.flatMap winC)) (hl : l.length ≤ 200)
    (hE : Enters fn) (hf : ∀ w1, Below w.heap.size w w1 → ∀ x ∈ l, Calls Try.prog fn (#[.agg #[.int .i64 x.part, .int .i64 x.start, .int .i64 x.len]] ++ caps) w1 fun e w' => e = .returned (.bool (p x)) ∧ Below w1.heap.size w1 w') :
    Calls Try.prog 103 #[.slice a l.length cap, .func (.func fn) #[] caps] w fun e w' => ∃ r : Int, e = .returned (.int .i64 r) ∧ Kp (decide (0 ≤ r) = l.any p) ∧ Below w.heap.size w w' := by
  have H1 := Kp.mk h
  have HF := Kp.mk hf
  have hE' := hE.out
  clear h hf hE
  go_enter Try.func103, Try.ntmps103
  go_wp2_with fail
  go_loopw [8] (fun i wr => ∃ k : Nat, k ≤ l.length ∧ i = .int .i64 k ∧ Kp (Below w.heap.size w wr) ∧ Kp ((l.take k).any p = false)) (fun i wr => l.length - (intOf i).toNat)
  case atStart => exact ⟨0, Nat.zero_le _, rfl, ⟨Below.refl _ _⟩, ⟨rfl⟩⟩
  case round =>
    obtain ⟨k, hk, rfl, HB, HN⟩ := hrel
    by_cases hlt : k < l.length
    · obtain ⟨g, o, rfl, hg, hc⟩ := H1.out.at (by omega)
      have hcell : ∀ j, j < 3 → wr.cell? ⟨g, o + k * 3 + j, none⟩ = (winC l[k])[j]? := fun j hj => by
        have h1 := hc (k * 3 + j) (by omega)
        rw [flat_at winC 3 winC_len l k j hlt hj] at h1
        rw [Nat.add_assoc]
        exact (HB.out.cell (p := ⟨g, o + (k * 3 + j), none⟩) hg).trans h1
      have e0 : wr.cell? ⟨g, o + k * 3, none⟩ = some (.int .i64 l[k].part) := hcell 0 (by omega)
      have e1 : wr.cell? ⟨g, o + k * 3 + 1, none⟩ = some (.int .i64 l[k].start) := hcell 1 (by omega)
      have e2 : wr.cell? ⟨g, o + k * 3 + 2, none⟩ = some (.int .i64 l[k].len) := hcell 2 (by omega)
      have HC := Kp.mk (HF.out wr HB.out l[k] (List.getElem_mem hlt))
      obtain ⟨x, hx⟩ : ∃ x, l[k] = x := ⟨_, rfl⟩
      have HA : Kp ((l.take (k + 1)).any p = ((l.take k).any p || p x)) := ⟨by rw [List.take_succ_eq_append_getElem hlt, List.any_append, hx]; simp⟩
      have HX : Kp (x ∈ l) := ⟨hx ▸ List.getElem_mem hlt⟩
      rw [hx] at HC e0 e1 e2
      clear hc hcell hx
      go_wp2_with fail
      refine HC.out.mono ?_
      cases hp : p x with
      | true =>
        rintro e w1 ⟨rfl, hb1⟩
        have HB1 := Kp.mk (below_call HB.out hb1)
        clear hb1
        go_wp2
        go_ret
        exact ⟨_, rfl, ⟨by
          rw [decide_eq_true (by omega)]
          exact (List.any_eq_true.2 ⟨x, HX.out, hp⟩).symm⟩, HB1.out⟩
      | false =>
        rintro e w1 ⟨rfl, hb1⟩
        have HB1 := Kp.mk (below_call HB.out hb1)
        clear hb1
        have HN1 : Kp ((l.take (k + 1)).any p = false) := ⟨by rw [HA.out, HN.out, hp]; rfl⟩
        go_wp2
        go_roundw
        case rel => exact ⟨k + 1, by omega, by go_num, HB1, HN1⟩
        case measure => simp [intOf]; omega
    · obtain rfl : k = l.length := by omega
      have HN' := HN.out
      rw [List.take_length] at HN'
      have HN2 := Kp.mk HN'
      clear HN'
      go_wp2
      go_ret
      exact ⟨_, rfl, ⟨by rw [HN2.out]; rfl⟩, HB.out⟩

set_option maxHeartbeats 400000 in
theorem winContains_any (l : List (Win)) (a : Option Addr) (cap : Nat) (fn : FuncId) (caps : Array Value) (p : Win → Bool) (b : Bool) (hb : l.any p = b) (w : World) (h : RowAt w 3 (.slice a l.length cap) l.length (l.flatMap winC)) (hl : l.length ≤ 200)
    (hE : Enters fn) (hf : ∀ w1, Below w.heap.size w w1 → ∀ x ∈ l, Calls Try.prog fn (#[.agg #[.int .i64 x.part, .int .i64 x.start, .int .i64 x.len]] ++ caps) w1 fun e w' => e = .returned (.bool (p x)) ∧ Below w1.heap.size w1 w') :
    Calls Try.prog 96 #[.slice a l.length cap, .func (.func fn) #[] caps] w fun e w' => e = .returned (.bool b) ∧ Below w.heap.size w w' := by
  go_enter Try.func96, Try.ntmps96
  go_wp2_with fail
  refine (winIndex_any l a cap fn caps p _ h hl hE hf).mono ?_
  rintro e w1 ⟨r, rfl, hr, hb1⟩
  go_wp2
  go_ret
  exact ⟨ret_bool (hr.out.trans hb), hb1⟩
end Go.Proofs.Ytmidcnfmphlneaa

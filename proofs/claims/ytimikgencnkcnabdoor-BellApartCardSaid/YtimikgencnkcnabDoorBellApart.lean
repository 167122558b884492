/- The law BellApart: its walk. -/
import Derived.Test.YtimikgencnkcnabDoorBellApartPure
namespace Go.Proofs.YtimikgencnkcnabDoor
open Go.RowKit
set_option linter.unusedSimpArgs false
set_option linter.unusedVariables false

theorem goneB_out (t : List Int) (i : Int) : outB t i = !(t.any fun y => y == i) := by
  induction t with
  | nil => rfl
  | cons y t ih =>
    have h : outB (y :: t) i = ((y != i) && outB t i) := by simp [outB]
    rw [h, ih, List.any_cons, Bool.not_or]
    rfl
theorem goneB_succ (t : List Int) (i : Int) (m : Nat) (h : m < t.length) : ((t.take (m + 1)).any fun y => y == i) = (((t.take m).any fun y => y == i) || (t[m] == i)) := by
  rw [List.take_succ_eq_append_getElem h, List.any_append]; simp

set_option maxRecDepth 100000 in
set_option maxHeartbeats 8000000 in
theorem bellApart_core (by_ : Nat) (hby : by_ ≤ 255) (v v2 : Value) (ls ts : List Int) (hl : ls.length ≤ 100) (hts : ts.length ≤ 100) (w : World) (hT : TabAt 0 Lib.deBruijn64tab w) (h0 : 0 < w.heap.size) (h : RowAt w 1 v ls.length (ls.map (Value.int .i64))) (h2 : RowAt w 1 v2 ts.length (ts.map (Value.int .i64))) :
    Calls Tryd.prog 6 #[v, v2, .int .u8 by_] w fun e w' => e = .returned (.bool true) ∧ Below w.heap.size w w' := by
  obtain ⟨a, ca, rfl, h3, h4⟩ := h.shape
  obtain ⟨a2, ca2, rfl, h5, h6⟩ := h2.shape
  have H1 := Kp.mk h
  have H2 := Kp.mk h2
  have HT := Kp.mk hT
  clear h h2 hT
  go_enter Tryd.func6, Tryd.ntmps6
  go_wp2_with fail
  refine (wakes4_any _ HT.out h0).mono ?_
  rintro e w1 ⟨rfl, hb1⟩
  go_wp2_with fail
  refine (bellNew_any 64 (by decide) _).mono ?_
  rintro e w2 ⟨A, rfl, hx, hb2, hA⟩
  have HB2 := Kp.mk (below_call hb1 hb2)
  have hw1 := hb1.size
  have hAw : w.heap.size ≤ A := by omega
  have hA2 := hx.out.lt
  clear hb1 hb2
  go_wp2_with fail
  refine (bellNew_any 64 (by decide) _).mono ?_
  rintro e w3 ⟨B, rfl, hy, hb3, hB⟩
  have HB3 := Kp.mk (below_call HB2.out hb3)
  have hx3 := Kp.mk (hx.out.below hb3)
  have hAB : A < B := by omega
  have HSA : Kp (∀ k, k ∈ [A] → w.heap.size ≤ k) := ⟨by intro k hk; simp at hk; omega⟩
  have HSB : Kp (∀ k, k ∈ [B] → w.heap.size ≤ k) := ⟨by intro k hk; simp at hk; omega⟩
  have HNA : Kp (A ∉ [B]) := ⟨by simp; omega⟩
  have HNB : Kp (B ∉ [A]) := ⟨by simp; omega⟩
  clear hb3 hx
  go_wp2_with fail
  go_loopw [53] (fun i' wr => ∃ (k : Nat) (x y : List Bool), k ≤ ls.length ∧ i' = .int .i64 k ∧ Kp (Below w.heap.size w wr) ∧ Kp (BAt wr A x) ∧ Kp (BAt wr B y) ∧ Kp (RungAll (fun i => ls.getD i 0) k x) ∧ Kp (RungAll (fun i => ls.getD ((i + by_) % ls.length) 0) k y)) (fun i' wr => ls.length - (intOf i').toNat)
  case atStart => exact ⟨0, List.replicate 64 false, List.replicate 64 false, Nat.zero_le _, rfl, HB3, hx3, hy, ⟨RungAll.start _⟩, ⟨RungAll.start _⟩⟩
  case round =>
    obtain ⟨k, x, y, hk, rfl, HB, HX, HY, HRX, HRY⟩ := hrel
    have hwr := HB.out.size
    have hAr := HX.out.lt
    have hBr := HY.out.lt
    by_cases hlt : k < ls.length
    · obtain ⟨g, o, rfl, hg, hc⟩ := H1.out.at (by omega)
      have hnn : 0 < ls.length := by omega
      obtain ⟨s, hs⟩ : ∃ s, k + by_ = s := ⟨_, rfl⟩
      obtain ⟨j, hj⟩ : ∃ j, s % ls.length = j := ⟨_, rfl⟩
      have hjn : j < ls.length := by rw [← hj]; exact Nat.mod_lt _ hnn
      obtain ⟨u, hu⟩ : ∃ u, ls[k] = u := ⟨_, rfl⟩
      obtain ⟨z, hz⟩ : ∃ z, ls[j] = z := ⟨_, rfl⟩
      have c0 : wr.cell? ⟨g, o + k, none⟩ = some (.int .i64 u) := (HB.out.cell (p := ⟨g, o + k, none⟩) hg).trans ((hc k (by omega)).trans (by simp [hlt, hu]))
      have hcj := hc j (by omega)
      have HRX1 : Kp (RungAll (fun i => ls.getD i 0) (k + 1) (ringB x u)) := ⟨by
        have h := HRX.out.step
        simp only [List.getD_eq_getElem?_getD, List.getElem?_eq_getElem hlt, Option.getD_some] at h ⊢
        rwa [hu] at h⟩
      have HRY1 : Kp (RungAll (fun i => ls.getD ((i + by_) % ls.length) 0) (k + 1) (ringB y z)) := ⟨by
        have h := HRY.out.step
        have h1 : ls.getD ((k + by_) % ls.length) 0 = z := by rw [hs, hj, List.getD_eq_getElem?_getD, List.getElem?_eq_getElem hjn, Option.getD_some, hz]
        try dsimp only at h
        rwa [h1] at h⟩
      have HCJ : Kp (w.cell? ⟨g, o + j, none⟩ = some (.int .i64 z)) := ⟨hcj.trans (by simp [hjn, hz])⟩
      have s1 : (k : Int) + (by_ : Int) = (s : Int) := by omega
      have s2 : IntKind.i64.wrap ((k : Int) + (by_ : Int)) = (s : Int) := by rw [s1]; exact IntWalk.i64_in _ (by omega)
      have s3 : (s : Int) % (ls.length : Int) = (j : Int) := by rw [← hj]; rfl
      have s4 : (s : Int).tmod (ls.length : Int) = (j : Int) := by rw [Int.tmod_eq_emod_of_nonneg (by omega)]; exact s3
      have s5 : IntKind.i64.wrap ((s : Int).tmod (ls.length : Int)) = (j : Int) := by rw [s4]; exact IntWalk.i64_in _ (by omega)
      have s6 : ((ls.length : Int) == 0) = false := by rw [beq_eq_false_iff_ne]; omega
      have s7 : (ls.length == 0) = false := by rw [beq_eq_false_iff_ne]; omega
      clear hc hu hz hcj hs hj
      go_wp2_with fail
      obtain ⟨r, hr⟩ : ∃ r : Int, (if 0 ≤ u ∧ u < x.length then (0 : Int) else 7) = r := ⟨_, rfl⟩
      refine (bellRing_any A x u _ HX.out).mono ?_
      rw [hr]
      clear hr
      rintro e w4 ⟨rfl, hb4, hx4⟩
      have HB4 := Kp.mk (hb4.below HB.out HSA.out hwr)
      have HY4 := Kp.mk (HY.out.but hb4 HNB.out)
      have c1 : w4.cell? ⟨g, o + j, none⟩ = some (.int .i64 z) := (HB4.out.cell (p := ⟨g, o + j, none⟩) hg).trans HCJ.out
      clear hb4
      go_wp2_with fail
      obtain ⟨r, hr⟩ : ∃ r : Int, (if 0 ≤ z ∧ z < y.length then (0 : Int) else 7) = r := ⟨_, rfl⟩
      refine (bellRing_any B y z _ HY4.out).mono ?_
      rw [hr]
      clear hr
      rintro e w5 ⟨rfl, hb5, hy5⟩
      have HB5 := Kp.mk (hb5.below HB4.out HSB.out HB4.out.size)
      have HX5 := Kp.mk (hx4.out.but hb5 HNA.out)
      clear hb5
      go_wp2
      go_roundw
      case rel => exact ⟨k + 1, _, _, by omega, by go_num, HB5, HX5, hy5, HRX1, HRY1⟩
      case measure => simp [intOf]; omega
    · obtain rfl : k = ls.length := by omega
      have hxy : x = y := RungAll.turned (n := ls.length) (by_ := by_) (fun i _ => rfl) HRX.out HRY.out
      subst hxy
      have hxl := HRX.out.1
      have HL := Kp.mk hxl
      obtain ⟨q, HQ⟩ : ∃ q, Kp (allB x = q) := ⟨_, ⟨rfl⟩⟩
      have hql : q.length ≤ 64 := by rw [← HQ.out, ← hxl]; exact allB_len x
      have HTK : Kp ((allB x).take (99 : Int).toNat = q) := ⟨by rw [HQ.out]; exact List.take_of_length_le (by rw [show (99 : Int).toNat = 99 from rfl]; omega)⟩
      clear hxl HRX HRY
      go_wp2_with fail
      refine (told4_any 99 A x _ HX.out (tab_low HT.out HB.out h0)).mono ?_
      rw [HTK.out]
      rintro e w4 ⟨v4, rfl, o4, hb4⟩
      have HB4 := Kp.mk (below_call HB.out hb4)
      have HX4 := Kp.mk (HX.out.below hb4)
      have HY4 := Kp.mk (HY.out.below hb4)
      have R4 := Kp.mk (RowAt.of_own o4)
      clear hb4 o4
      go_wp2_with fail
      refine (told4_any 99 B x _ HY4.out (tab_low HT.out HB4.out h0)).mono ?_
      rw [HTK.out]
      rintro e w5 ⟨v5, rfl, o5, hb5⟩
      have HB5 := Kp.mk (below_call HB4.out hb5)
      have HX5 := Kp.mk (HX4.out.below hb5)
      have R45 := Kp.mk (R4.out.below hb5)
      have R5 := Kp.mk (RowAt.of_own o5)
      clear hb5 o5
      go_wp2_with fail
      refine (rsame_any _ _ q q true (by simp) _ R45.out R5.out).mono ?_
      rintro e w6 ⟨rfl, hb6⟩
      have HB6 := Kp.mk (below_call HB5.out hb6)
      have HX6 := Kp.mk (HX5.out.below hb6)
      clear hb6
      go_wp2_with fail
      refine (told4_any 99 A x _ HX6.out (tab_low HT.out HB6.out h0)).mono ?_
      rw [HTK.out]
      rintro e w7 ⟨v7, rfl, o7, hb7⟩
      have HB7 := Kp.mk (below_call HB6.out hb7)
      have HX7 := Kp.mk (HX6.out.below hb7)
      have S7 := Kp.mk ((SlAt.of_own o7).base (m := A + 1) HX6.out.lt)
      obtain ⟨aw, cw, rfl, hcw, hcw2⟩ := S7.out.row.shape
      clear hb7 o7
      have H2' := Kp.mk (H2.out.below HB7.out)
      have HNE : Kp (0 < ts.length → ∀ a n c, Value.slice a2 ts.length ca2 = .slice (some a) n c → a.block ≠ A) := ⟨fun hp a n c he => by
        obtain ⟨g, o, rfl, hg, _⟩ := H2.out.at hp
        simp at he
        rw [← he.1]
        simp; omega⟩
      go_wp2_with fail
      refine (bellTake_any A x _ ts (by omega) _ HX7.out H2'.out HNE.out).mono ?_
      obtain ⟨x1, tk, HP⟩ : ∃ x1 tk, Kp (takeT x ts = (x1, tk)) := ⟨_, _, ⟨rfl⟩⟩
      rw [HP.out]
      rintro e w8 ⟨at_, ct, rfl, x8, o8, hb8⟩
      have HB8 := Kp.mk (hb8.below HB7.out HSA.out HB7.out.size)
      have S8 := Kp.mk (S7.out.but hb8 (by intro b hb; simp at hb; omega))
      have R8 := Kp.mk (RowAt.of_own o8.out)
      obtain ⟨_, _, he8, hct, hctm⟩ := R8.out.shape
      simp only [Value.slice.injEq, true_and] at he8
      obtain ⟨rfl, rfl⟩ := he8
      have hcnt := takeT_count x ts
      rw [HP.out] at hcnt
      dsimp only at hcnt
      rw [HQ.out] at hcnt
      have htkl : tk.length ≤ 64 := by omega
      have HCNT := Kp.mk hcnt
      have HINV : Kp (∀ i, i ∈ q → hasB x1 i = outB tk i) := ⟨fun i hi => by
        have h := (takeT_inv x ts).2 i
        rw [HP.out] at h
        rw [h, mem_allB (by rw [HQ.out]; exact hi), Bool.true_and]⟩
      have HX1L : Kp (x1.length = 64) := ⟨by have h := (takeT_inv x ts).1; rw [HP.out] at h; rw [h]; exact HL.out⟩
      clear hb8 o8 hcnt
      obtain ⟨wS, hwS⟩ : ∃ wS : World, wS = w8 := ⟨_, rfl⟩
      go_wp2_with fail
      go_loopw [88] (fun i' wr => ∃ k : Nat, k ≤ q.length ∧ i' = .int .i64 k ∧ wr = wS) (fun i' wr => q.length - (intOf i').toNat)
      case atStart => exact ⟨0, Nat.zero_le _, rfl, hwS.symm⟩
      case round =>
        obtain ⟨k, hk, rfl, rfl⟩ := hrel
        subst hwS
        obtain ⟨wo, rfl⟩ : ∃ wo : World, wo = wr := ⟨_, rfl⟩
        by_cases hlt : k < q.length
        · obtain ⟨g, o, rfl, hg, hc⟩ := S8.out.row.at (by omega)
          obtain ⟨i, hi⟩ : ∃ i, q[k] = i := ⟨_, rfl⟩
          have hmem : i ∈ q := hi ▸ List.getElem_mem hlt
          have c0 : wo.cell? ⟨g, o + k, none⟩ = some (.int .i64 i) := (hc k (by omega)).trans ((i64s_at q k hlt).trans (by rw [hi]))
          have HHI := Kp.mk (HINV.out i hmem)
          clear hc hi hmem
          go_wp2_with fail
          go_loopw [16, 94] (fun vb i' w9 => ∃ (m : Nat) (p : Bool), m ≤ tk.length ∧ i' = .int .i64 m ∧ vb = .bool p ∧ w9 = wo ∧ Kp (((tk.take m).any fun y => y == i) = p)) (fun vb i' w9 => tk.length - (intOf i').toNat)
          case atStart => exact ⟨0, false, Nat.zero_le _, rfl, rfl, rfl, ⟨rfl⟩⟩
          case round =>
            obtain ⟨m, p, hm, rfl, rfl, rfl, HP9⟩ := hrel
            by_cases hlt2 : m < tk.length
            · obtain ⟨g2, o2, rfl, hg2, hc2⟩ := R8.out.at (by omega)
              have HS : Kp (((tk.take (m + 1)).any fun y => y == i) = (p || (tk[m] == i))) := ⟨by rw [goneB_succ tk i m hlt2, HP9.out]⟩
              obtain ⟨u, hu⟩ : ∃ u, tk[m] = u := ⟨_, rfl⟩
              have c1 : wr.cell? ⟨g2, o2 + m, none⟩ = some (.int .i64 u) := (hc2 m (by omega)).trans ((i64s_at tk m hlt2).trans (by rw [hu]))
              rw [hu] at HS
              clear hc2 hu
              cases p with
              | true =>
                go_wp2
                go_roundw
                case rel => exact ⟨m + 1, true, by omega, by go_num, by first | rfl | trivial, by first | rfl | trivial, HS⟩
                case measure => simp [intOf]; omega
              | false =>
                obtain ⟨d, hd⟩ : ∃ d, (u == i) = d := ⟨_, rfl⟩
                rw [hd] at HS
                cases d
                · go_wp2
                  go_roundw
                  case rel => exact ⟨m + 1, false, by omega, by go_num, by first | rfl | trivial, by first | rfl | trivial, HS⟩
                  case measure => simp [intOf]; omega
                · go_wp2
                  go_roundw
                  case rel => exact ⟨m + 1, true, by omega, by go_num, by first | rfl | trivial, by first | rfl | trivial, HS⟩
                  case measure => simp [intOf]; omega
            · obtain rfl : m = tk.length := by omega
              have HH : Kp (hasB x1 i = !p) := ⟨by rw [HHI.out, goneB_out, ← HP9.out, List.take_length]⟩
              clear c0
              go_wp2_with fail
              refine (bellHas_any A x1 i _ x8.out).mono ?_
              rw [HH.out]
              rintro e wl ⟨rfl, hwl⟩
              subst wl
              cases p with
              | true =>
                go_wp2
                go_roundw
                case rel => exact ⟨k + 1, by omega, by go_num, by first | rfl | trivial⟩
                case measure => simp [intOf]; omega
              | false =>
                go_wp2
                go_roundw
                case rel => exact ⟨k + 1, by omega, by go_num, by first | rfl | trivial⟩
                case measure => simp [intOf]; omega
        · obtain rfl : k = q.length := by omega
          obtain ⟨q1, HQ1⟩ : ∃ q1, Kp (allB x1 = q1) := ⟨_, ⟨rfl⟩⟩
          have hq1l : q1.length ≤ 64 := by rw [← HQ1.out, ← HX1L.out]; exact allB_len x1
          have HTK1 : Kp ((allB x1).take (99 : Int).toNat = q1) := ⟨by rw [HQ1.out]; exact List.take_of_length_le (by rw [show (99 : Int).toNat = 99 from rfl]; omega)⟩
          have hsum := HCNT.out
          rw [HQ1.out] at hsum
          have s1 : (q1.length : Int) + (tk.length : Int) = (q.length : Int) := by omega
          have s2 : IntKind.i64.wrap ((q1.length : Int) + (tk.length : Int)) = (q.length : Int) := by rw [s1]; exact IntWalk.i64_in _ (by omega)
          clear hsum
          go_wp2_with fail
          refine (told4_any 99 A x1 _ x8.out (tab_low HT.out HB8.out h0)).mono ?_
          rw [HTK1.out]
          rintro e w9 ⟨v9, rfl, o9, hb9⟩
          have HB9 := Kp.mk (below_call HB8.out hb9)
          obtain ⟨a9, c9, rfl, hc9, hc9m⟩ := (RowAt.of_own o9).shape
          clear hb9 o9
          go_wp2
          go_ret
          exact ⟨ret_bool (by first | rfl | simp [s1, s2]), HB9.out⟩

set_option maxHeartbeats 1000000 in
theorem bellApart_long (st : Int) (a a2 : Option Addr) (n ca n2 ca2 : Nat) (hx : 100 < n ∨ 100 < n2) (w : World) (hT : TabAt 0 Lib.deBruijn64tab w) (h0 : 0 < w.heap.size) :
    Calls Tryd.prog 6 #[.slice a n ca, .slice a2 n2 ca2, .int .u8 st] w fun e w' => e = .returned (.bool true) ∧ Below w.heap.size w w' := by
  have HT := Kp.mk hT
  clear hT
  by_cases h1 : 100 < n
  · go_enter Tryd.func6, Tryd.ntmps6
    go_wp2_with fail
    refine (wakes4_any _ HT.out h0).mono ?_
    rintro e w1 ⟨rfl, hb1⟩
    go_wp2
    go_ret
    exact ⟨rfl, hb1⟩
  · have h2 : 100 < n2 := by omega
    go_enter Tryd.func6, Tryd.ntmps6
    go_wp2_with fail
    refine (wakes4_any _ HT.out h0).mono ?_
    rintro e w1 ⟨rfl, hb1⟩
    go_wp2
    go_ret
    exact ⟨rfl, hb1⟩

theorem bellApart_any' (v0 v1 v2 : Value) (w : World) (hT : TabAt 0 Lib.deBruijn64tab w) (hz : 0 < w.heap.size) (h0 : RdV w (.slice 1 (.int .i64)) v0) (h1 : RdV w (.slice 1 (.int .i64)) v1) (h2 : RdV w (.int .u8) v2) : Calls Tryd.prog 6 #[v0, v1, v2] w fun e w' => e = .returned (.bool true) ∧ Below w.heap.size w w' := by
  obtain ⟨m, rfl, wm⟩ := h2
  obtain ⟨xs, hr, hw⟩ := intsAt_of h0
  obtain ⟨ys, hr2, hw2⟩ := intsAt_of h1
  obtain ⟨st, rfl⟩ := Int.eq_ofNat_of_zero_le (bounds_u8 wm).1
  by_cases hl : xs.length ≤ 100 ∧ ys.length ≤ 100
  · exact bellApart_core st (by have := (bounds_u8 wm).2; omega) v0 v1 xs ys hl.1 hl.2 w hT hz hr hr2
  · obtain ⟨a, ca, rfl, _, _⟩ := hr.shape
    obtain ⟨a2, ca2, rfl, _, _⟩ := hr2.shape
    exact bellApart_long _ a a2 xs.length ca ys.length ca2 (by omega) w hT hz
end Go.Proofs.YtimikgencnkcnabDoor

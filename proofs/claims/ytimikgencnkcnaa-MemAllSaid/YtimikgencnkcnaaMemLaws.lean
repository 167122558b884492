/- The laws MemNew, MemStores, MemOthers of layer 2: their walks. -/
import Derived.Test.YtimikgencnkcnaaMem
import Derived.Test.YtimikgencnkcnaaRead
namespace Go.Proofs.Ytimikgencnkcnaa
open Go.RowKit
set_option linter.unusedSimpArgs false
set_option linter.unusedVariables false

set_option maxHeartbeats 400000 in
theorem memWakes (w : World) : Calls Try.prog 27 #[] w fun e w' => e = .returned (.bool true) ∧ Below w.heap.size w w' := by
  go_enter Try.func27, Try.ntmps27
  go_wp2_with fail
  refine (memNew_any 2 (by omega) _).mono ?_
  rintro e w1 ⟨B, D, rfl, HM, hb, hB, hD⟩
  have hM : MemAt w1 B D [0, 0] := HM.out
  have hM2 := hM.set 1 7
  go_wp2_with fail
  refine (memStore_in B D [0, 0] 1 7 (by decide) _ hM).mono ?_
  rintro e w2 ⟨rfl, rfl⟩
  have HM2 := Kp.mk hM2
  clear hM hM2 HM
  have HB := Kp.mk (hb.setCell (p := ⟨D, 1, none⟩) hD (.int .u32 7))
  clear hb
  generalize w1.setCell ⟨D, 1, none⟩ (.int .u32 7) = w2 at HM2 HB
  go_wp2_with fail
  refine (memLoad_in B D [0, 7] 1 (by decide) _ HM2.out).mono ?_
  rintro e w3 ⟨rfl, rfl⟩
  go_wp2_with fail
  refine (memLoad_out B D [0, 7] 2 (by decide) _ HM2.out).mono ?_
  rintro e w4 ⟨rfl, rfl⟩
  go_wp2
  go_ret
  exact ⟨rfl, HB.out⟩

set_option maxHeartbeats 1000000 in
theorem memNew_core (n : Int) (w : World) : Calls Try.prog 11 #[.int .i64 n] w fun e w' => e = .returned (.bool true) ∧ Below w.heap.size w w' := by
  by_cases hbad : n < 0 ∨ 65536 < n
  · have hcase : n < 0 ∨ ¬ n < 0 := by omega
    rcases hcase with hc | hc
    all_goals
      (try have hc2 : 65536 < n := by omega)
      go_enter Try.func11, Try.ntmps11
      go_wp2_with fail
      refine (memWakes _).mono ?_
      rintro e w1 ⟨rfl, hb⟩
      go_wp2_with fail
      refine (memNew_bad n hbad _).mono ?_
      rintro e w2 ⟨rfl, rfl⟩
      go_wp2
      go_ret
      exact ⟨rfl, hb⟩
  · obtain ⟨m, rfl⟩ := Int.eq_ofNat_of_zero_le (show 0 ≤ n by omega)
    have hm : m ≤ 65536 := by omega
    clear hbad
    go_enter Try.func11, Try.ntmps11
    go_wp2_with fail
    refine (memWakes _).mono ?_
    rintro e w1 ⟨rfl, hb⟩
    go_wp2_with fail
    refine (memNew_any m hm _).mono ?_
    rintro e w2 ⟨B, D, rfl, HM, hb2, hB, hD⟩
    have HB := Kp.mk (below_call hb hb2)
    obtain ⟨ws, hws⟩ : ∃ ws : List Int, List.replicate m 0 = ws := ⟨_, rfl⟩
    have hlen : ws.length = m := by rw [← hws]; simp
    rw [hws] at HM
    have HW := Kp.mk hws
    clear hb hb2 hws
    subst hlen
    go_wp2_with fail
    refine (memLen_any B D ws _ HM.out).mono ?_
    rintro e w3 ⟨rfl, rfl⟩
    go_wp2_with fail
    refine (memWords_any B D ws _ HM.out).mono ?_
    rintro e w4 ⟨g, rfl, hg, hb, hgl⟩
    have HB4 := Kp.mk (below_call HB.out hb)
    have HM4 := Kp.mk (HM.out.below hb)
    clear hb hg HM HB
    go_wp2_with fail
    refine (memWords_any B D ws _ HM4.out).mono ?_
    rintro e w5 ⟨g', rfl, HG, hb, hgl'⟩
    have HB5 := Kp.mk (below_call HB4.out hb)
    clear hb HB4 HM4
    go_wp2_with fail
    go_loopw [48] (fun i wr => ∃ k : Nat, k ≤ ws.length ∧ i = .int .i64 k ∧ wr = w5) (fun i wr => ws.length - (intOf i).toNat)
    case atStart => exact ⟨0, Nat.zero_le _, rfl, rfl⟩
    case round =>
      obtain ⟨k, hk, rfl, rfl⟩ := hrel
      by_cases hlt : k < ws.length
      · have c0 : wr.cell? ⟨g', k, none⟩ = some (.int .u32 0) := by
          rw [cell_blk HG.out k, List.getElem?_toArray, u32s_at ws k hlt]
          congr 2
          exact List.eq_of_mem_replicate (n := ws.length) (by rw [HW.out]; exact List.getElem_mem hlt)
        go_wp2
        go_roundw
        case rel => first | exact ⟨k + 1, by omega, by go_num, rfl⟩ | exact ⟨k + 1, by omega, by go_num, trivial⟩
        case measure => simp [intOf]; omega
      · obtain rfl : k = ws.length := by omega
        go_wp2
        go_ret
        exact ⟨rfl, HB5.out⟩
theorem memNew_any_law (v0 : Value) (w : World) (h0 : RdV w (.int .i64) v0) : Calls Try.prog 11 #[v0] w fun e w' => e = .returned (.bool true) ∧ Below w.heap.size w w' := by
  obtain ⟨n, rfl, wn⟩ := h0
  exact memNew_core n w
end Go.Proofs.Ytimikgencnkcnaa

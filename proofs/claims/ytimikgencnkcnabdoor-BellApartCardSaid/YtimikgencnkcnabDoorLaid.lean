/- What the listed table gives: math/bits.deBruijn64tab as its initialiser lays it. -/
import Derived.Test.YtimikgencnkcnabDoorBellTake
import Derived.Test.YtimikgencnkcnabDoorRead
import Derived.ProofKit
import Derived.LaidMore
import Derived.OpenShut
import Derived.FnData
import Derived.MakeChecks
import Derived.LaidHandle
import Derived.Stop.Joined
namespace Go.Proofs.YtimikgencnkcnabDoor
open Go.RowKit
set_option linter.unusedSimpArgs false
set_option linter.unusedVariables false
open Go.ChangeShapes Go.WideShapes Go.ChangeAt
theorem tabName : Tryd.prog.globalNamed "math/bits.deBruijn64tab" = some 0 := by kernel_rfl
theorem tabType : (Tryd.prog.globals[0]?).map (·.type) = some 53 := by kernel_rfl
theorem door_met (os : Os) (args : Array Value) : laidMetH Tryd.prog [("math/bits.deBruijn64tab", Rows.laid_math_bits_deBruijn64tab)] ((World.doorLaid Tryd.prog 400 os).forCall (fun _ _ => 0) ⟨#[], args, []⟩).memory :=
  laidMetH_of_parts3 (fuel := 8) (laidMet_of_run' 8 (by kernel_rfl) (by kernel_rfl)) (by kernel_rfl) (by kernel_rfl)
theorem laid_list : (Rows.laid_math_bits_deBruijn64tab : DataW Unit) = .agg (Lib.deBruijn64tab.map fun n : Nat => .lit (.int .u8 (n : Int))) := rfl
theorem of_laid {W : World} (h : laidMetH Tryd.prog [("math/bits.deBruijn64tab", Rows.laid_math_bits_deBruijn64tab)] W) : TabAt 0 Lib.deBruijn64tab W ∧ 0 < W.heap.size := by
  rw [MakeChecks.laidMetH_plain _ _ _ (by kernel_rfl)] at h
  obtain ⟨ps, ⟨g0, t0, cs0, f0, p0, q0, hg0, ht0, hv0, hd0, _, _⟩, _, _⟩ := h
  obtain rfl := Option.some.inj (tabName.symm.trans hg0)
  obtain rfl := Option.some.inj (tabType.symm.trans ht0)
  obtain ⟨xs, m, rfl, hx, hlen, hn, hel⟩ := DataW.trod_array Tryd.underlying53 hd0
  simp only [Prod.mk.injEq] at hx
  have hx1 := hx.1
  rw [laid_list] at hx1
  simp only [DataW.agg.injEq] at hx1
  have c5 : Tryd.prog.cellsOf 5 = 1 := by kernel_rfl
  have hT : TabAt 0 Lib.deBruijn64tab W := fun j hj => by
    have hj64 : j < 64 := hj
    have h1 := hel j hj64
    rw [c5, Nat.mul_one, List.getElem?_eq_getElem (by omega)] at h1
    obtain ⟨k, e1, e2, _⟩ := DataW.trod_int Tryd.underlying5 h1
    have h2 : (xs.map (·.1))[j]? = some (.lit (.int .u8 k)) := by rw [List.getElem?_map, List.getElem?_eq_getElem (by omega), Option.map_some, e2]
    rw [← hx1, List.getElem?_map, List.getElem?_eq_getElem hj, Option.map_some] at h2
    have hk : ((Lib.deBruijn64tab[j] : Nat) : Int) = k := by
      simp only [Option.some.injEq, DataW.lit.injEq, Lit.int.injEq, true_and] at h2
      exact h2
    rw [World.var?_cell hg0 hv0 j]
    have h3 : (cs0.toList.drop j)[0]? = some (.int .u8 k) := by
      have h4 : ((cs0.toList.drop j).take 1)[0]? = some (.int .u8 k) := by rw [e1]; rfl
      rwa [List.getElem?_take_of_lt (by omega)] at h4
    rw [List.getElem?_drop, Nat.add_zero, Array.getElem?_toList] at h3
    rw [h3, ← hk, List.getD_eq_getElem?_getD, List.getElem?_eq_getElem hj]
    rfl
  exact ⟨hT, World.block_lt_of_cell? W ⟨0, 0, none⟩ (hT 0 (by decide))⟩
end Go.Proofs.YtimikgencnkcnabDoor

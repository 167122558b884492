/- What the listed table gives: the words of package sign as their initialiser lays them. -/
import Derived.Test.YtdajadfgiifioaaDoorSgn1
import Derived.Test.YtdajadfgiifioaaDoorRead
import Derived.ProofKit
import Derived.LaidMore
import Derived.OpenShut
import Derived.FnData
import Derived.MakeChecks
import Derived.LaidHandle
import Derived.Stop.Joined
namespace Go.Proofs.YtdajadfgiifioaaDoor
open Go.RowKit
set_option linter.unusedSimpArgs false
set_option linter.unusedVariables false
open Go.ChangeShapes Go.WideShapes Go.ChangeAt
theorem tabName : Tryd.prog.globalNamed "porthole/sign.names" = some 0 := by kernel_rfl
theorem tabType : (Tryd.prog.globals[0]?).map (·.type) = some 89 := by kernel_rfl
theorem door_met (os : Os) (args : Array Value) : laidMetH Tryd.prog [("porthole/sign.names", Rows.laid_porthole_sign_names)] ((World.doorLaid Tryd.prog 400 os).forCall (fun _ _ => 0) ⟨#[], args, []⟩).memory :=
  laidMetH_of_parts3 (fuel := 8) (laidMet_of_run' 8 (by kernel_rfl) (by kernel_rfl)) (by kernel_rfl) (by kernel_rfl)
theorem laid_list : (Rows.laid_porthole_sign_names : DataW Unit) = .agg (nameL.map fun s => .lit (.string s.data.toList)) := rfl
theorem of_laid {W : World} (h : laidMetH Tryd.prog [("porthole/sign.names", Rows.laid_porthole_sign_names)] W) : NamesAt W ∧ 0 < W.heap.size := by
  rw [MakeChecks.laidMetH_plain _ _ _ (by kernel_rfl)] at h
  obtain ⟨ps, ⟨g0, t0, cs0, f0, p0, q0, hg0, ht0, hv0, hd0, _, _⟩, _, _⟩ := h
  obtain rfl := Option.some.inj (tabName.symm.trans hg0)
  obtain rfl := Option.some.inj (tabType.symm.trans ht0)
  obtain ⟨xs, m, rfl, hx, hlen, hn, hel⟩ := DataW.trod_array Tryd.underlying89 hd0
  simp only [Prod.mk.injEq] at hx
  have hx1 := hx.1
  rw [laid_list] at hx1
  simp only [DataW.agg.injEq] at hx1
  have c5 : Tryd.prog.cellsOf 9 = 1 := by kernel_rfl
  have hT : NamesAt W := fun j hj => by
    have hjl : j < nameL.length := hj
    have h1 := hel j hj
    rw [c5, Nat.mul_one, List.getElem?_eq_getElem (by omega)] at h1
    obtain ⟨k, e1, e2, _⟩ := DataW.trod_string Tryd.underlying9 h1
    have h2 : (xs.map (·.1))[j]? = some (.lit (.string k.data.toList)) := by rw [List.getElem?_map, List.getElem?_eq_getElem (by omega), Option.map_some, e2]
    rw [← hx1, List.getElem?_map, List.getElem?_eq_getElem hjl, Option.map_some] at h2
    have hk : nameL[j] = k := by
      simp only [Option.some.injEq, DataW.lit.injEq, Lit.string.injEq] at h2
      exact ByteArray.ext (Array.toList_inj.1 h2)
    rw [World.var?_cell hg0 hv0 j]
    have h3 : (cs0.toList.drop j)[0]? = some (.string k) := by
      have h4 : ((cs0.toList.drop j).take 1)[0]? = some (.string k) := by rw [e1]; rfl
      rwa [List.getElem?_take_of_lt (by omega)] at h4
    rw [List.getElem?_drop, Nat.add_zero, Array.getElem?_toList] at h3
    rw [h3, ← hk, List.getD_eq_getElem?_getD, List.getElem?_eq_getElem hjl]
    rfl
  exact ⟨hT, hT.lt⟩
end Go.Proofs.YtdajadfgiifioaaDoor

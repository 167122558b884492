/-
  No cell of these rows narrows 'for every input' (looked for: loops, veiled, ifaces, maps, wideKeys, modest, calm, conditions, laid).
  DERIVED. THE GIVEN ROWS OF THIS SEAT. 10 by the template 'for every input the law returns true; each argument reads behind the call as it read before'; 0 by the template 'total and deterministic' (their statements: YtpeajlponlmceaaTotals.lean).
  GIVEN WITH THE SEED: the statements are not yours to turn. If you find one false, say at which input.
  Laid BY PROGRAM, IN A SANDBOX (cutbox-rows.mjs): the forced cells as the released guide's own fill.sh prints them over the translation 511063a1a35661c1… (all of the seat's roots in one cut). By AI agents, Wed Nov 11 2026. No macro, syntax, notation, axiom, sorry.
-/
import Derived.Test.YtpeajlponlmceaaChecked
import GoSem.Claim
import GoSem.ClaimJoined
import GoSem.ClaimMapViews
import Derived.JoinedTies
import Derived.KernelRfl
namespace Go.Proofs.Ytpeajlponlmceaa
/- THE CELL 'sum', in the pinned program and in every row, IS THE sha256 OF THE DUMP (.gsa) THAT YtpeajlponlmceaaProg.lean LOADS. Nothing in Lean hashes anything: it is a label: what it is worth is what the hold of that sum in a sandbox is worth. -/
noncomputable def Try.pinned : Pinned := { name := "ytpeajlponlmceaa", sum := "511063a1a35661c1133c6d20b418486b2f5f40850bc31c1cfa6d53a47385a0e3", checked := Try.checked }
namespace Rows
def none {H : Type} : Left H := { results := [], args := [] }

/-- 'portholelaw07.DefectMirror': WHATEVER THE INPUT: true; the input reads as it did. -/
def defectMirrorSpec : ChangeSpec := { name := "defectMirror", fn := fun _ => fun
  | [d] => { results := [.lit (.bool true)], args := [d] }
  | _ => none }
def defectMirrorRow : OpenClaim := { program := "ytpeajlponlmceaa", sum := "511063a1a35661c1133c6d20b418486b2f5f40850bc31c1cfa6d53a47385a0e3", func := "porthole/portholelaw07.DefectMirror", spec := "defectMirror", unfollowed := true, recurses := true, apart := false }
def DefectMirrorSaid : Prop := defectMirrorRow.holds Try.pinned (OpenSpec.ofChange defectMirrorSpec)

/-- ITS FALSE NEIGHBOUR: 'it returns false'. Refute it at one input. -/
def defectMirrorWrong : ChangeSpec := { name := "defectMirror", fn := fun _ => fun
  | [d] => { results := [.lit (.bool false)], args := [d] }
  | _ => none }
def DefectMirrorWrongFalsely : Prop := defectMirrorRow.holds Try.pinned (OpenSpec.ofChange defectMirrorWrong)

/-- 'portholelaw07.DefectHolds': WHATEVER THE INPUT: true; the input reads as it did. -/
def defectHoldsSpec : ChangeSpec := { name := "defectHolds", fn := fun _ => fun
  | [d1, d2] => { results := [.lit (.bool true)], args := [d1, d2] }
  | _ => none }
def defectHoldsRow : OpenClaim := { program := "ytpeajlponlmceaa", sum := "511063a1a35661c1133c6d20b418486b2f5f40850bc31c1cfa6d53a47385a0e3", func := "porthole/portholelaw07.DefectHolds", spec := "defectHolds", unfollowed := true, recurses := true, apart := false }
def DefectHoldsSaid : Prop := defectHoldsRow.holds Try.pinned (OpenSpec.ofChange defectHoldsSpec)

/-- ITS FALSE NEIGHBOUR: 'it returns false'. Refute it at one input. -/
def defectHoldsWrong : ChangeSpec := { name := "defectHolds", fn := fun _ => fun
  | [d1, d2] => { results := [.lit (.bool false)], args := [d1, d2] }
  | _ => none }
def DefectHoldsWrongFalsely : Prop := defectHoldsRow.holds Try.pinned (OpenSpec.ofChange defectHoldsWrong)

/-- 'portholelaw07.DefectTurns': WHATEVER THE INPUT: true; the input reads as it did. -/
def defectTurnsSpec : ChangeSpec := { name := "defectTurns", fn := fun _ => fun
  | [d1, d2] => { results := [.lit (.bool true)], args := [d1, d2] }
  | _ => none }
def defectTurnsRow : OpenClaim := { program := "ytpeajlponlmceaa", sum := "511063a1a35661c1133c6d20b418486b2f5f40850bc31c1cfa6d53a47385a0e3", func := "porthole/portholelaw07.DefectTurns", spec := "defectTurns", unfollowed := true, recurses := true, apart := false }
def DefectTurnsSaid : Prop := defectTurnsRow.holds Try.pinned (OpenSpec.ofChange defectTurnsSpec)

/-- ITS FALSE NEIGHBOUR: 'it returns false'. Refute it at one input. -/
def defectTurnsWrong : ChangeSpec := { name := "defectTurns", fn := fun _ => fun
  | [d1, d2] => { results := [.lit (.bool false)], args := [d1, d2] }
  | _ => none }
def DefectTurnsWrongFalsely : Prop := defectTurnsRow.holds Try.pinned (OpenSpec.ofChange defectTurnsWrong)

/-- 'portholelaw07.DefectAll': WHATEVER THE INPUT: true; the input reads as it did. -/
def defectAllSpec : ChangeSpec := { name := "defectAll", fn := fun _ => fun
  | [d1, d2] => { results := [.lit (.bool true)], args := [d1, d2] }
  | _ => none }
def defectAllRow : OpenClaim := { program := "ytpeajlponlmceaa", sum := "511063a1a35661c1133c6d20b418486b2f5f40850bc31c1cfa6d53a47385a0e3", func := "porthole/portholelaw07.DefectAll", spec := "defectAll", unfollowed := true, recurses := true, apart := false }
def DefectAllSaid : Prop := defectAllRow.holds Try.pinned (OpenSpec.ofChange defectAllSpec)

/-- ITS FALSE NEIGHBOUR: 'it returns false'. Refute it at one input. -/
def defectAllWrong : ChangeSpec := { name := "defectAll", fn := fun _ => fun
  | [d1, d2] => { results := [.lit (.bool false)], args := [d1, d2] }
  | _ => none }
def DefectAllWrongFalsely : Prop := defectAllRow.holds Try.pinned (OpenSpec.ofChange defectAllWrong)

/-- 'portholelaw07.DefectKeeps': WHATEVER THE INPUT: true; the input reads as it did. -/
def defectKeepsSpec : ChangeSpec := { name := "defectKeeps", fn := fun _ => fun
  | [d] => { results := [.lit (.bool true)], args := [d] }
  | _ => none }
def defectKeepsRow : OpenClaim := { program := "ytpeajlponlmceaa", sum := "511063a1a35661c1133c6d20b418486b2f5f40850bc31c1cfa6d53a47385a0e3", func := "porthole/portholelaw07.DefectKeeps", spec := "defectKeeps", unfollowed := true, recurses := true, apart := false }
def DefectKeepsSaid : Prop := defectKeepsRow.holds Try.pinned (OpenSpec.ofChange defectKeepsSpec)

/-- ITS FALSE NEIGHBOUR: 'it returns false'. Refute it at one input. -/
def defectKeepsWrong : ChangeSpec := { name := "defectKeeps", fn := fun _ => fun
  | [d] => { results := [.lit (.bool false)], args := [d] }
  | _ => none }
def DefectKeepsWrongFalsely : Prop := defectKeepsRow.holds Try.pinned (OpenSpec.ofChange defectKeepsWrong)

/-- 'portholelaw08.LayoutCells': WHATEVER THE INPUT: true; the input reads as it did. -/
def layoutCellsSpec : ChangeSpec := { name := "layoutCells", fn := fun _ => fun
  | [d1, d2, d3] => { results := [.lit (.bool true)], args := [d1, d2, d3] }
  | _ => none }
def layoutCellsRow : OpenClaim := { program := "ytpeajlponlmceaa", sum := "511063a1a35661c1133c6d20b418486b2f5f40850bc31c1cfa6d53a47385a0e3", func := "porthole/portholelaw08.LayoutCells", spec := "layoutCells", unfollowed := true, recurses := true, apart := false }
def LayoutCellsSaid : Prop := layoutCellsRow.holds Try.pinned (OpenSpec.ofChange layoutCellsSpec)

/-- ITS FALSE NEIGHBOUR: 'it returns false'. Refute it at one input. -/
def layoutCellsWrong : ChangeSpec := { name := "layoutCells", fn := fun _ => fun
  | [d1, d2, d3] => { results := [.lit (.bool false)], args := [d1, d2, d3] }
  | _ => none }
def LayoutCellsWrongFalsely : Prop := layoutCellsRow.holds Try.pinned (OpenSpec.ofChange layoutCellsWrong)

/-- 'portholelaw08.LayoutGrows': WHATEVER THE INPUT: true; the input reads as it did. -/
def layoutGrowsSpec : ChangeSpec := { name := "layoutGrows", fn := fun _ => fun
  | [d1, d2] => { results := [.lit (.bool true)], args := [d1, d2] }
  | _ => none }
def layoutGrowsRow : OpenClaim := { program := "ytpeajlponlmceaa", sum := "511063a1a35661c1133c6d20b418486b2f5f40850bc31c1cfa6d53a47385a0e3", func := "porthole/portholelaw08.LayoutGrows", spec := "layoutGrows", unfollowed := true, recurses := true, apart := false }
def LayoutGrowsSaid : Prop := layoutGrowsRow.holds Try.pinned (OpenSpec.ofChange layoutGrowsSpec)

/-- ITS FALSE NEIGHBOUR: 'it returns false'. Refute it at one input. -/
def layoutGrowsWrong : ChangeSpec := { name := "layoutGrows", fn := fun _ => fun
  | [d1, d2] => { results := [.lit (.bool false)], args := [d1, d2] }
  | _ => none }
def LayoutGrowsWrongFalsely : Prop := layoutGrowsRow.holds Try.pinned (OpenSpec.ofChange layoutGrowsWrong)

/-- 'portholelaw08.LayoutSpans': WHATEVER THE INPUT: true; the input reads as it did. -/
def layoutSpansSpec : ChangeSpec := { name := "layoutSpans", fn := fun _ => fun
  | [d1, d2, d3] => { results := [.lit (.bool true)], args := [d1, d2, d3] }
  | _ => none }
def layoutSpansRow : OpenClaim := { program := "ytpeajlponlmceaa", sum := "511063a1a35661c1133c6d20b418486b2f5f40850bc31c1cfa6d53a47385a0e3", func := "porthole/portholelaw08.LayoutSpans", spec := "layoutSpans", unfollowed := true, recurses := true, apart := false }
def LayoutSpansSaid : Prop := layoutSpansRow.holds Try.pinned (OpenSpec.ofChange layoutSpansSpec)

/-- ITS FALSE NEIGHBOUR: 'it returns false'. Refute it at one input. -/
def layoutSpansWrong : ChangeSpec := { name := "layoutSpans", fn := fun _ => fun
  | [d1, d2, d3] => { results := [.lit (.bool false)], args := [d1, d2, d3] }
  | _ => none }
def LayoutSpansWrongFalsely : Prop := layoutSpansRow.holds Try.pinned (OpenSpec.ofChange layoutSpansWrong)

/-- 'portholelaw08.LayoutMay': WHATEVER THE INPUT: true; the input reads as it did. -/
def layoutMaySpec : ChangeSpec := { name := "layoutMay", fn := fun _ => fun
  | [d1, d2, d3] => { results := [.lit (.bool true)], args := [d1, d2, d3] }
  | _ => none }
def layoutMayRow : OpenClaim := { program := "ytpeajlponlmceaa", sum := "511063a1a35661c1133c6d20b418486b2f5f40850bc31c1cfa6d53a47385a0e3", func := "porthole/portholelaw08.LayoutMay", spec := "layoutMay", unfollowed := true, recurses := true, apart := false }
def LayoutMaySaid : Prop := layoutMayRow.holds Try.pinned (OpenSpec.ofChange layoutMaySpec)

/-- ITS FALSE NEIGHBOUR: 'it returns false'. Refute it at one input. -/
def layoutMayWrong : ChangeSpec := { name := "layoutMay", fn := fun _ => fun
  | [d1, d2, d3] => { results := [.lit (.bool false)], args := [d1, d2, d3] }
  | _ => none }
def LayoutMayWrongFalsely : Prop := layoutMayRow.holds Try.pinned (OpenSpec.ofChange layoutMayWrong)

/-- 'portholelaw08.LayoutApart': WHATEVER THE INPUT: true; the input reads as it did. -/
def layoutApartSpec : ChangeSpec := { name := "layoutApart", fn := fun _ => fun
  | [d] => { results := [.lit (.bool true)], args := [d] }
  | _ => none }
def layoutApartRow : OpenClaim := { program := "ytpeajlponlmceaa", sum := "511063a1a35661c1133c6d20b418486b2f5f40850bc31c1cfa6d53a47385a0e3", func := "porthole/portholelaw08.LayoutApart", spec := "layoutApart", unfollowed := true, recurses := true, apart := false }
def LayoutApartSaid : Prop := layoutApartRow.holds Try.pinned (OpenSpec.ofChange layoutApartSpec)

/-- ITS FALSE NEIGHBOUR: 'it returns false'. Refute it at one input. -/
def layoutApartWrong : ChangeSpec := { name := "layoutApart", fn := fun _ => fun
  | [d] => { results := [.lit (.bool false)], args := [d] }
  | _ => none }
def LayoutApartWrongFalsely : Prop := layoutApartRow.holds Try.pinned (OpenSpec.ofChange layoutApartWrong)

/- THE SECOND FORM. 'bulk': how many values and letters a reading holds, each counted each time it is reached (what is shared counts as often as it is met; a slice's spare places count too). A statement '..UptoSaid' is the law's where the arguments, and the package variables that the reading takes, are together of bulk at most 1048576: NARROWER than '..Said'. Prove '..Said' where nothing that the law and all that it calls make is longer than what came in: it says more and counts as full. Else prove '..UptoSaid'. A law counts once. -/
mutual
def uptoBulk {H : Type} : DataW H → Nat
  | .lit (.string bytes) => bytes.length + 1
  | .lit _ => 1
  | .nil => 1
  | .ptr d => uptoBulk d + 1
  | .slice elems spare => uptoBulkAll elems + uptoBulkAll spare + 1
  | .agg parts => uptoBulkAll parts + 1
  | .iface _ d => uptoBulk d + 1
  | .map entries => uptoBulkEntries entries + 1
  | .held _ => 1
def uptoBulkAll {H : Type} : List (DataW H) → Nat
  | [] => 0
  | d :: r => uptoBulk d + uptoBulkAll r
def uptoBulkEntries {H : Type} : List (Lit × DataW H) → Nat
  | [] => 0
  | x :: r => uptoBulkEntry x + uptoBulkEntries r
def uptoBulkEntry {H : Type} : Lit × DataW H → Nat
  | (.string bytes, d) => bytes.length + uptoBulk d + 1
  | (_, d) => uptoBulk d + 1
 end
def uptoSmall : (H : Type) → List (DataW H) → Bool := fun _ ds => decide (uptoBulkAll ds ≤ 1048576)
def OpenSpec.upto (s : _root_.Go.ChangeSpec) : _root_.Go.OpenSpec := { _root_.Go.OpenSpec.ofChange s with cond := some uptoSmall }

/-- 'portholelaw07.DefectMirror', WHERE WHAT IT READS IS OF BULK AT MOST 1048576: true; the input reads as it did. -/
def defectMirrorUptoRow : OpenClaim := { program := "ytpeajlponlmceaa", sum := "511063a1a35661c1133c6d20b418486b2f5f40850bc31c1cfa6d53a47385a0e3", func := "porthole/portholelaw07.DefectMirror", spec := "defectMirror", unfollowed := true, recurses := true, apart := false, narrowed := true }
def DefectMirrorUptoSaid : Prop := defectMirrorUptoRow.holds Try.pinned (OpenSpec.upto defectMirrorSpec)

/-- 'portholelaw07.DefectHolds', WHERE WHAT IT READS IS OF BULK AT MOST 1048576: true; the input reads as it did. -/
def defectHoldsUptoRow : OpenClaim := { program := "ytpeajlponlmceaa", sum := "511063a1a35661c1133c6d20b418486b2f5f40850bc31c1cfa6d53a47385a0e3", func := "porthole/portholelaw07.DefectHolds", spec := "defectHolds", unfollowed := true, recurses := true, apart := false, narrowed := true }
def DefectHoldsUptoSaid : Prop := defectHoldsUptoRow.holds Try.pinned (OpenSpec.upto defectHoldsSpec)

/-- 'portholelaw07.DefectTurns', WHERE WHAT IT READS IS OF BULK AT MOST 1048576: true; the input reads as it did. -/
def defectTurnsUptoRow : OpenClaim := { program := "ytpeajlponlmceaa", sum := "511063a1a35661c1133c6d20b418486b2f5f40850bc31c1cfa6d53a47385a0e3", func := "porthole/portholelaw07.DefectTurns", spec := "defectTurns", unfollowed := true, recurses := true, apart := false, narrowed := true }
def DefectTurnsUptoSaid : Prop := defectTurnsUptoRow.holds Try.pinned (OpenSpec.upto defectTurnsSpec)

/-- 'portholelaw07.DefectAll', WHERE WHAT IT READS IS OF BULK AT MOST 1048576: true; the input reads as it did. -/
def defectAllUptoRow : OpenClaim := { program := "ytpeajlponlmceaa", sum := "511063a1a35661c1133c6d20b418486b2f5f40850bc31c1cfa6d53a47385a0e3", func := "porthole/portholelaw07.DefectAll", spec := "defectAll", unfollowed := true, recurses := true, apart := false, narrowed := true }
def DefectAllUptoSaid : Prop := defectAllUptoRow.holds Try.pinned (OpenSpec.upto defectAllSpec)

/-- 'portholelaw07.DefectKeeps', WHERE WHAT IT READS IS OF BULK AT MOST 1048576: true; the input reads as it did. -/
def defectKeepsUptoRow : OpenClaim := { program := "ytpeajlponlmceaa", sum := "511063a1a35661c1133c6d20b418486b2f5f40850bc31c1cfa6d53a47385a0e3", func := "porthole/portholelaw07.DefectKeeps", spec := "defectKeeps", unfollowed := true, recurses := true, apart := false, narrowed := true }
def DefectKeepsUptoSaid : Prop := defectKeepsUptoRow.holds Try.pinned (OpenSpec.upto defectKeepsSpec)

/-- 'portholelaw08.LayoutCells', WHERE WHAT IT READS IS OF BULK AT MOST 1048576: true; the input reads as it did. -/
def layoutCellsUptoRow : OpenClaim := { program := "ytpeajlponlmceaa", sum := "511063a1a35661c1133c6d20b418486b2f5f40850bc31c1cfa6d53a47385a0e3", func := "porthole/portholelaw08.LayoutCells", spec := "layoutCells", unfollowed := true, recurses := true, apart := false, narrowed := true }
def LayoutCellsUptoSaid : Prop := layoutCellsUptoRow.holds Try.pinned (OpenSpec.upto layoutCellsSpec)

/-- 'portholelaw08.LayoutGrows', WHERE WHAT IT READS IS OF BULK AT MOST 1048576: true; the input reads as it did. -/
def layoutGrowsUptoRow : OpenClaim := { program := "ytpeajlponlmceaa", sum := "511063a1a35661c1133c6d20b418486b2f5f40850bc31c1cfa6d53a47385a0e3", func := "porthole/portholelaw08.LayoutGrows", spec := "layoutGrows", unfollowed := true, recurses := true, apart := false, narrowed := true }
def LayoutGrowsUptoSaid : Prop := layoutGrowsUptoRow.holds Try.pinned (OpenSpec.upto layoutGrowsSpec)

/-- 'portholelaw08.LayoutSpans', WHERE WHAT IT READS IS OF BULK AT MOST 1048576: true; the input reads as it did. -/
def layoutSpansUptoRow : OpenClaim := { program := "ytpeajlponlmceaa", sum := "511063a1a35661c1133c6d20b418486b2f5f40850bc31c1cfa6d53a47385a0e3", func := "porthole/portholelaw08.LayoutSpans", spec := "layoutSpans", unfollowed := true, recurses := true, apart := false, narrowed := true }
def LayoutSpansUptoSaid : Prop := layoutSpansUptoRow.holds Try.pinned (OpenSpec.upto layoutSpansSpec)

/-- 'portholelaw08.LayoutMay', WHERE WHAT IT READS IS OF BULK AT MOST 1048576: true; the input reads as it did. -/
def layoutMayUptoRow : OpenClaim := { program := "ytpeajlponlmceaa", sum := "511063a1a35661c1133c6d20b418486b2f5f40850bc31c1cfa6d53a47385a0e3", func := "porthole/portholelaw08.LayoutMay", spec := "layoutMay", unfollowed := true, recurses := true, apart := false, narrowed := true }
def LayoutMayUptoSaid : Prop := layoutMayUptoRow.holds Try.pinned (OpenSpec.upto layoutMaySpec)

/-- 'portholelaw08.LayoutApart', WHERE WHAT IT READS IS OF BULK AT MOST 1048576: true; the input reads as it did. -/
def layoutApartUptoRow : OpenClaim := { program := "ytpeajlponlmceaa", sum := "511063a1a35661c1133c6d20b418486b2f5f40850bc31c1cfa6d53a47385a0e3", func := "porthole/portholelaw08.LayoutApart", spec := "layoutApart", unfollowed := true, recurses := true, apart := false, narrowed := true }
def LayoutApartUptoSaid : Prop := layoutApartUptoRow.holds Try.pinned (OpenSpec.upto layoutApartSpec)

end Rows
end Go.Proofs.Ytpeajlponlmceaa

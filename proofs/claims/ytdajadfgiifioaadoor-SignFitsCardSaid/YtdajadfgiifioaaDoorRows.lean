/-
  NARROWER THAN 'FOR EVERY INPUT', by the rows' own cells (each row's printed sentence says how): SignPorts: laid · SignRefused: laid · SignFits: laid · SignModes: laid · SignWords: laid · ModelQueues: laid · ModelReads: laid.
  DERIVED. THE GIVEN ROWS OF THIS SEAT. 7 by the template 'for every input the law returns true; each argument reads behind the call as it read before'; 0 by the template 'total and deterministic' (their statements: YtdajadfgiifioaaDoorTotals.lean).
  GIVEN WITH THE SEED: the statements are not yours to turn. If you find one false, say at which input.
  Laid BY PROGRAM, IN A SANDBOX (cutbox-rows.mjs): the forced cells as the released guide's own fill.sh prints them over the translation 65484686af22b8b5… (all of the seat's roots in one cut). By AI agents, Wed Nov 11 2026. No macro, syntax, notation, axiom, sorry.
-/
import Derived.Test.YtdajadfgiifioaaDoorChecked
import GoSem.Claim
import GoSem.ClaimJoined
import GoSem.ClaimMapViews
import Derived.JoinedTies
import Derived.KernelRfl
namespace Go.Proofs.YtdajadfgiifioaaDoor
/- THE CELL 'sum', in the pinned program and in every row, IS THE sha256 OF THE DUMP (.gsa) THAT YtdajadfgiifioaaDoorProg.lean LOADS. Nothing in Lean hashes anything: it is a label: what it is worth is what the hold of that sum in a sandbox is worth. -/
noncomputable def Tryd.pinned : Pinned := { name := "ytdajadfgiifioaadoor", sum := "65484686af22b8b5fce6c6c5daf4cdf189ba4f17a95dc26eb9aba91316dea242", checked := Tryd.checked }
namespace Rows
def none {H : Type} : Left H := { results := [], args := [] }

/- WHAT THE LISTED PACKAGE-LEVEL VARIABLES READ AS WHEN THE CALL BEGINS. Each datum BY PROGRAM (the guide's laid-datum.mjs) off the statement by which the dump's own 'gosem.cut.vars' lays the variable. In a bare row this is a premise. The card (YtdajadfgiifioaaDoorCards.lean) ties it to the program's text. -/
def laid_porthole_sign_names {H : Type} : DataW H := .agg [.lit (.string []), .lit (.string [99, 114, 101, 97, 116, 101]), .lit (.string [110, 111, 114, 109, 97, 108]), .lit (.string [119, 114, 105, 116, 101]), .lit (.string [114, 101, 97, 100]), .lit (.string [115, 101, 110, 100]), .lit (.string [114, 101, 99, 101, 105, 118, 101]), .lit (.string [115, 116, 97, 116, 117, 115]), .lit (.string [112, 101, 101, 107]), .lit (.string [112, 111, 107, 101])]

/-- 'portholelaw10.SignPorts': WHATEVER THE INPUT: true; the input reads as it did. -/
def signPortsSpec : ChangeSpec := { name := "signPorts", fn := fun _ => fun
  | [d1, d2] => { results := [.lit (.bool true)], args := [d1, d2] }
  | _ => none }
def signPortsRow : OpenClaim := { program := "ytdajadfgiifioaadoor", sum := "65484686af22b8b5fce6c6c5daf4cdf189ba4f17a95dc26eb9aba91316dea242", func := "porthole/portholelaw10.SignPorts", spec := "signPorts", unfollowed := true, recurses := true, named := ["porthole/sign.names"], apart := false, laid := [("porthole/sign.names", laid_porthole_sign_names)] }
def SignPortsSaid : Prop := signPortsRow.holds Tryd.pinned (OpenSpec.ofChange signPortsSpec)

/-- ITS FALSE NEIGHBOUR: 'it returns false'. Refute it at one input. -/
def signPortsWrong : ChangeSpec := { name := "signPorts", fn := fun _ => fun
  | [d1, d2] => { results := [.lit (.bool false)], args := [d1, d2] }
  | _ => none }
def SignPortsWrongFalsely : Prop := signPortsRow.holds Tryd.pinned (OpenSpec.ofChange signPortsWrong)

/-- 'portholelaw10.SignRefused': WHATEVER THE INPUT: true; the input reads as it did. -/
def signRefusedSpec : ChangeSpec := { name := "signRefused", fn := fun _ => fun
  | [d1, d2, d3] => { results := [.lit (.bool true)], args := [d1, d2, d3] }
  | _ => none }
def signRefusedRow : OpenClaim := { program := "ytdajadfgiifioaadoor", sum := "65484686af22b8b5fce6c6c5daf4cdf189ba4f17a95dc26eb9aba91316dea242", func := "porthole/portholelaw10.SignRefused", spec := "signRefused", unfollowed := true, recurses := true, named := ["porthole/sign.names"], apart := false, laid := [("porthole/sign.names", laid_porthole_sign_names)] }
def SignRefusedSaid : Prop := signRefusedRow.holds Tryd.pinned (OpenSpec.ofChange signRefusedSpec)

/-- ITS FALSE NEIGHBOUR: 'it returns false'. Refute it at one input. -/
def signRefusedWrong : ChangeSpec := { name := "signRefused", fn := fun _ => fun
  | [d1, d2, d3] => { results := [.lit (.bool false)], args := [d1, d2, d3] }
  | _ => none }
def SignRefusedWrongFalsely : Prop := signRefusedRow.holds Tryd.pinned (OpenSpec.ofChange signRefusedWrong)

/-- 'portholelaw10.SignFits': WHATEVER THE INPUT: true; the input reads as it did. -/
def signFitsSpec : ChangeSpec := { name := "signFits", fn := fun _ => fun
  | [d1, d2, d3] => { results := [.lit (.bool true)], args := [d1, d2, d3] }
  | _ => none }
def signFitsRow : OpenClaim := { program := "ytdajadfgiifioaadoor", sum := "65484686af22b8b5fce6c6c5daf4cdf189ba4f17a95dc26eb9aba91316dea242", func := "porthole/portholelaw10.SignFits", spec := "signFits", unfollowed := true, recurses := true, named := ["porthole/sign.names"], apart := false, laid := [("porthole/sign.names", laid_porthole_sign_names)] }
def SignFitsSaid : Prop := signFitsRow.holds Tryd.pinned (OpenSpec.ofChange signFitsSpec)

/-- ITS FALSE NEIGHBOUR: 'it returns false'. Refute it at one input. -/
def signFitsWrong : ChangeSpec := { name := "signFits", fn := fun _ => fun
  | [d1, d2, d3] => { results := [.lit (.bool false)], args := [d1, d2, d3] }
  | _ => none }
def SignFitsWrongFalsely : Prop := signFitsRow.holds Tryd.pinned (OpenSpec.ofChange signFitsWrong)

/-- 'portholelaw10.SignModes': WHATEVER THE INPUT: true; the input reads as it did. -/
def signModesSpec : ChangeSpec := { name := "signModes", fn := fun _ => fun
  | [d1, d2, d3] => { results := [.lit (.bool true)], args := [d1, d2, d3] }
  | _ => none }
def signModesRow : OpenClaim := { program := "ytdajadfgiifioaadoor", sum := "65484686af22b8b5fce6c6c5daf4cdf189ba4f17a95dc26eb9aba91316dea242", func := "porthole/portholelaw10.SignModes", spec := "signModes", unfollowed := true, recurses := true, named := ["porthole/sign.names"], apart := false, laid := [("porthole/sign.names", laid_porthole_sign_names)] }
def SignModesSaid : Prop := signModesRow.holds Tryd.pinned (OpenSpec.ofChange signModesSpec)

/-- ITS FALSE NEIGHBOUR: 'it returns false'. Refute it at one input. -/
def signModesWrong : ChangeSpec := { name := "signModes", fn := fun _ => fun
  | [d1, d2, d3] => { results := [.lit (.bool false)], args := [d1, d2, d3] }
  | _ => none }
def SignModesWrongFalsely : Prop := signModesRow.holds Tryd.pinned (OpenSpec.ofChange signModesWrong)

/-- 'portholelaw10.SignWords': WHATEVER THE INPUT: true; the input reads as it did. -/
def signWordsSpec : ChangeSpec := { name := "signWords", fn := fun _ => fun
  | [d1, d2] => { results := [.lit (.bool true)], args := [d1, d2] }
  | _ => none }
def signWordsRow : OpenClaim := { program := "ytdajadfgiifioaadoor", sum := "65484686af22b8b5fce6c6c5daf4cdf189ba4f17a95dc26eb9aba91316dea242", func := "porthole/portholelaw10.SignWords", spec := "signWords", unfollowed := true, recurses := true, named := ["porthole/sign.names"], apart := false, laid := [("porthole/sign.names", laid_porthole_sign_names)] }
def SignWordsSaid : Prop := signWordsRow.holds Tryd.pinned (OpenSpec.ofChange signWordsSpec)

/-- ITS FALSE NEIGHBOUR: 'it returns false'. Refute it at one input. -/
def signWordsWrong : ChangeSpec := { name := "signWords", fn := fun _ => fun
  | [d1, d2] => { results := [.lit (.bool false)], args := [d1, d2] }
  | _ => none }
def SignWordsWrongFalsely : Prop := signWordsRow.holds Tryd.pinned (OpenSpec.ofChange signWordsWrong)

/-- 'portholelaw18.ModelQueues': WHATEVER THE INPUT: true; the input reads as it did. -/
def modelQueuesSpec : ChangeSpec := { name := "modelQueues", fn := fun _ => fun
  | [d1, d2] => { results := [.lit (.bool true)], args := [d1, d2] }
  | _ => none }
def modelQueuesRow : OpenClaim := { program := "ytdajadfgiifioaadoor", sum := "65484686af22b8b5fce6c6c5daf4cdf189ba4f17a95dc26eb9aba91316dea242", func := "porthole/portholelaw18.ModelQueues", spec := "modelQueues", unfollowed := true, recurses := true, named := ["porthole/sign.names"], apart := false, laid := [("porthole/sign.names", laid_porthole_sign_names)] }
def ModelQueuesSaid : Prop := modelQueuesRow.holds Tryd.pinned (OpenSpec.ofChange modelQueuesSpec)

/-- ITS FALSE NEIGHBOUR: 'it returns false'. Refute it at one input. -/
def modelQueuesWrong : ChangeSpec := { name := "modelQueues", fn := fun _ => fun
  | [d1, d2] => { results := [.lit (.bool false)], args := [d1, d2] }
  | _ => none }
def ModelQueuesWrongFalsely : Prop := modelQueuesRow.holds Tryd.pinned (OpenSpec.ofChange modelQueuesWrong)

/-- 'portholelaw18.ModelReads': WHATEVER THE INPUT: true; the input reads as it did. -/
def modelReadsSpec : ChangeSpec := { name := "modelReads", fn := fun _ => fun
  | [d1, d2] => { results := [.lit (.bool true)], args := [d1, d2] }
  | _ => none }
def modelReadsRow : OpenClaim := { program := "ytdajadfgiifioaadoor", sum := "65484686af22b8b5fce6c6c5daf4cdf189ba4f17a95dc26eb9aba91316dea242", func := "porthole/portholelaw18.ModelReads", spec := "modelReads", unfollowed := true, recurses := true, named := ["porthole/sign.names"], apart := false, laid := [("porthole/sign.names", laid_porthole_sign_names)] }
def ModelReadsSaid : Prop := modelReadsRow.holds Tryd.pinned (OpenSpec.ofChange modelReadsSpec)

/-- ITS FALSE NEIGHBOUR: 'it returns false'. Refute it at one input. -/
def modelReadsWrong : ChangeSpec := { name := "modelReads", fn := fun _ => fun
  | [d1, d2] => { results := [.lit (.bool false)], args := [d1, d2] }
  | _ => none }
def ModelReadsWrongFalsely : Prop := modelReadsRow.holds Tryd.pinned (OpenSpec.ofChange modelReadsWrong)

/- THE SECOND FORM. 'bulk': how many values and letters a reading holds, each counted each time it is reached (what is shared counts as often as it is met; a slice's spare places count too). A statement '..UptoSaid' is the law's where the arguments, and the package variables that the reading takes, are together of bulk at most 1048576: NARROWER than '..Said'. Prove '..Said' where nothing that the law and all that it calls make is longer than what came in: it says more and counts as full. Else prove '..UptoSaid'. A law counts once. -/
mutual
def uptoBulk {H : Type} : DataW H → Nat
  | .lit (.string bytes) => bytes.length + 1
  | .lit _ => 1
  | .nil => 1
  | .ptr d => uptoBulk d + 1
  | .slice elems spare => uptoBulkAll elems + uptoBulkAll spare + 1
  | .agg parts => uptoBulkAll parts + 1
  | .iface _ d => uptoBulk d + 1
  | .map entries => uptoBulkEntries entries + 1
  | .held _ => 1
def uptoBulkAll {H : Type} : List (DataW H) → Nat
  | [] => 0
  | d :: r => uptoBulk d + uptoBulkAll r
def uptoBulkEntries {H : Type} : List (Lit × DataW H) → Nat
  | [] => 0
  | x :: r => uptoBulkEntry x + uptoBulkEntries r
def uptoBulkEntry {H : Type} : Lit × DataW H → Nat
  | (.string bytes, d) => bytes.length + uptoBulk d + 1
  | (_, d) => uptoBulk d + 1
 end
def uptoSmall : (H : Type) → List (DataW H) → Bool := fun _ ds => decide (uptoBulkAll ds ≤ 1048576)
def OpenSpec.upto (s : _root_.Go.ChangeSpec) : _root_.Go.OpenSpec := { _root_.Go.OpenSpec.ofChange s with cond := some uptoSmall }

/-- 'portholelaw10.SignPorts', WHERE WHAT IT READS IS OF BULK AT MOST 1048576: true; the input reads as it did. -/
def signPortsUptoRow : OpenClaim := { program := "ytdajadfgiifioaadoor", sum := "65484686af22b8b5fce6c6c5daf4cdf189ba4f17a95dc26eb9aba91316dea242", func := "porthole/portholelaw10.SignPorts", spec := "signPorts", unfollowed := true, recurses := true, named := ["porthole/sign.names"], apart := false, laid := [("porthole/sign.names", laid_porthole_sign_names)], narrowed := true }
def SignPortsUptoSaid : Prop := signPortsUptoRow.holds Tryd.pinned (OpenSpec.upto signPortsSpec)

/-- 'portholelaw10.SignRefused', WHERE WHAT IT READS IS OF BULK AT MOST 1048576: true; the input reads as it did. -/
def signRefusedUptoRow : OpenClaim := { program := "ytdajadfgiifioaadoor", sum := "65484686af22b8b5fce6c6c5daf4cdf189ba4f17a95dc26eb9aba91316dea242", func := "porthole/portholelaw10.SignRefused", spec := "signRefused", unfollowed := true, recurses := true, named := ["porthole/sign.names"], apart := false, laid := [("porthole/sign.names", laid_porthole_sign_names)], narrowed := true }
def SignRefusedUptoSaid : Prop := signRefusedUptoRow.holds Tryd.pinned (OpenSpec.upto signRefusedSpec)

/-- 'portholelaw10.SignFits', WHERE WHAT IT READS IS OF BULK AT MOST 1048576: true; the input reads as it did. -/
def signFitsUptoRow : OpenClaim := { program := "ytdajadfgiifioaadoor", sum := "65484686af22b8b5fce6c6c5daf4cdf189ba4f17a95dc26eb9aba91316dea242", func := "porthole/portholelaw10.SignFits", spec := "signFits", unfollowed := true, recurses := true, named := ["porthole/sign.names"], apart := false, laid := [("porthole/sign.names", laid_porthole_sign_names)], narrowed := true }
def SignFitsUptoSaid : Prop := signFitsUptoRow.holds Tryd.pinned (OpenSpec.upto signFitsSpec)

/-- 'portholelaw10.SignModes', WHERE WHAT IT READS IS OF BULK AT MOST 1048576: true; the input reads as it did. -/
def signModesUptoRow : OpenClaim := { program := "ytdajadfgiifioaadoor", sum := "65484686af22b8b5fce6c6c5daf4cdf189ba4f17a95dc26eb9aba91316dea242", func := "porthole/portholelaw10.SignModes", spec := "signModes", unfollowed := true, recurses := true, named := ["porthole/sign.names"], apart := false, laid := [("porthole/sign.names", laid_porthole_sign_names)], narrowed := true }
def SignModesUptoSaid : Prop := signModesUptoRow.holds Tryd.pinned (OpenSpec.upto signModesSpec)

/-- 'portholelaw10.SignWords', WHERE WHAT IT READS IS OF BULK AT MOST 1048576: true; the input reads as it did. -/
def signWordsUptoRow : OpenClaim := { program := "ytdajadfgiifioaadoor", sum := "65484686af22b8b5fce6c6c5daf4cdf189ba4f17a95dc26eb9aba91316dea242", func := "porthole/portholelaw10.SignWords", spec := "signWords", unfollowed := true, recurses := true, named := ["porthole/sign.names"], apart := false, laid := [("porthole/sign.names", laid_porthole_sign_names)], narrowed := true }
def SignWordsUptoSaid : Prop := signWordsUptoRow.holds Tryd.pinned (OpenSpec.upto signWordsSpec)

/-- 'portholelaw18.ModelQueues', WHERE WHAT IT READS IS OF BULK AT MOST 1048576: true; the input reads as it did. -/
def modelQueuesUptoRow : OpenClaim := { program := "ytdajadfgiifioaadoor", sum := "65484686af22b8b5fce6c6c5daf4cdf189ba4f17a95dc26eb9aba91316dea242", func := "porthole/portholelaw18.ModelQueues", spec := "modelQueues", unfollowed := true, recurses := true, named := ["porthole/sign.names"], apart := false, laid := [("porthole/sign.names", laid_porthole_sign_names)], narrowed := true }
def ModelQueuesUptoSaid : Prop := modelQueuesUptoRow.holds Tryd.pinned (OpenSpec.upto modelQueuesSpec)

/-- 'portholelaw18.ModelReads', WHERE WHAT IT READS IS OF BULK AT MOST 1048576: true; the input reads as it did. -/
def modelReadsUptoRow : OpenClaim := { program := "ytdajadfgiifioaadoor", sum := "65484686af22b8b5fce6c6c5daf4cdf189ba4f17a95dc26eb9aba91316dea242", func := "porthole/portholelaw18.ModelReads", spec := "modelReads", unfollowed := true, recurses := true, named := ["porthole/sign.names"], apart := false, laid := [("porthole/sign.names", laid_porthole_sign_names)], narrowed := true }
def ModelReadsUptoSaid : Prop := modelReadsUptoRow.holds Tryd.pinned (OpenSpec.upto modelReadsSpec)

end Rows
end Go.Proofs.YtdajadfgiifioaaDoor

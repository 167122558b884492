/-
  No cell of these rows narrows 'for every input' (looked for: loops, veiled, ifaces, maps, wideKeys, modest, calm, conditions, laid).
  DERIVED. THE GIVEN ROWS OF THIS SEAT. 4 by the template 'for every input the law returns true; each argument reads behind the call as it read before'; 0 by the template 'total and deterministic' (their statements: YtmidcnfmphlneaaTotals.lean).
  GIVEN WITH THE SEED: the statements are not yours to turn. If you find one false, say at which input.
  Laid BY PROGRAM, IN A SANDBOX (cutbox-rows.mjs): the forced cells as the released guide's own fill.sh prints them over the translation 06848d73e16f00ec… (all of the seat's roots in one cut). By AI agents, Wed Nov 11 2026. No macro, syntax, notation, axiom, sorry.
-/
import Derived.Test.YtmidcnfmphlneaaChecked
import GoSem.Claim
import GoSem.ClaimJoined
import GoSem.ClaimMapViews
import Derived.JoinedTies
import Derived.KernelRfl
namespace Go.Proofs.Ytmidcnfmphlneaa
/- THE CELL 'sum', in the pinned program and in every row, IS THE sha256 OF THE DUMP (.gsa) THAT YtmidcnfmphlneaaProg.lean LOADS. Nothing in Lean hashes anything: it is a label: what it is worth is what the hold of that sum in a sandbox is worth. -/
noncomputable def Try.pinned : Pinned := { name := "ytmidcnfmphlneaa", sum := "06848d73e16f00ec8f56607e7c9c01602958b733d4e1509064488efea44652f9", checked := Try.checked }
namespace Rows
def none {H : Type} : Left H := { results := [], args := [] }

/-- 'portholelaw11.FourAtomic': WHATEVER THE INPUT: true; the input reads as it did. -/
def fourAtomicSpec : ChangeSpec := { name := "fourAtomic", fn := fun _ => fun
  | [d1, d2] => { results := [.lit (.bool true)], args := [d1, d2] }
  | _ => none }
def fourAtomicRow : OpenClaim := { program := "ytmidcnfmphlneaa", sum := "06848d73e16f00ec8f56607e7c9c01602958b733d4e1509064488efea44652f9", func := "porthole/portholelaw11.FourAtomic", spec := "fourAtomic", unfollowed := true, recurses := true, apart := false }
def FourAtomicSaid : Prop := fourAtomicRow.holds Try.pinned (OpenSpec.ofChange fourAtomicSpec)

/-- ITS FALSE NEIGHBOUR: 'it returns false'. Refute it at one input. -/
def fourAtomicWrong : ChangeSpec := { name := "fourAtomic", fn := fun _ => fun
  | [d1, d2] => { results := [.lit (.bool false)], args := [d1, d2] }
  | _ => none }
def FourAtomicWrongFalsely : Prop := fourAtomicRow.holds Try.pinned (OpenSpec.ofChange fourAtomicWrong)

/-- 'portholelaw11.FourAlone': WHATEVER THE INPUT: true; the input reads as it did. -/
def fourAloneSpec : ChangeSpec := { name := "fourAlone", fn := fun _ => fun
  | [d1, d2, d3] => { results := [.lit (.bool true)], args := [d1, d2, d3] }
  | _ => none }
def fourAloneRow : OpenClaim := { program := "ytmidcnfmphlneaa", sum := "06848d73e16f00ec8f56607e7c9c01602958b733d4e1509064488efea44652f9", func := "porthole/portholelaw11.FourAlone", spec := "fourAlone", unfollowed := true, recurses := true, apart := false }
def FourAloneSaid : Prop := fourAloneRow.holds Try.pinned (OpenSpec.ofChange fourAloneSpec)

/-- ITS FALSE NEIGHBOUR: 'it returns false'. Refute it at one input. -/
def fourAloneWrong : ChangeSpec := { name := "fourAlone", fn := fun _ => fun
  | [d1, d2, d3] => { results := [.lit (.bool false)], args := [d1, d2, d3] }
  | _ => none }
def FourAloneWrongFalsely : Prop := fourAloneRow.holds Try.pinned (OpenSpec.ofChange fourAloneWrong)

/-- 'portholelaw11.FourApart': WHATEVER THE INPUT: true; the input reads as it did. -/
def fourApartSpec : ChangeSpec := { name := "fourApart", fn := fun _ => fun
  | [d1, d2] => { results := [.lit (.bool true)], args := [d1, d2] }
  | _ => none }
def fourApartRow : OpenClaim := { program := "ytmidcnfmphlneaa", sum := "06848d73e16f00ec8f56607e7c9c01602958b733d4e1509064488efea44652f9", func := "porthole/portholelaw11.FourApart", spec := "fourApart", unfollowed := true, recurses := true, apart := false }
def FourApartSaid : Prop := fourApartRow.holds Try.pinned (OpenSpec.ofChange fourApartSpec)

/-- ITS FALSE NEIGHBOUR: 'it returns false'. Refute it at one input. -/
def fourApartWrong : ChangeSpec := { name := "fourApart", fn := fun _ => fun
  | [d1, d2] => { results := [.lit (.bool false)], args := [d1, d2] }
  | _ => none }
def FourApartWrongFalsely : Prop := fourApartRow.holds Try.pinned (OpenSpec.ofChange fourApartWrong)

/-- 'portholelaw11.FourStays': WHATEVER THE INPUT: true; the input reads as it did. -/
def fourStaysSpec : ChangeSpec := { name := "fourStays", fn := fun _ => fun
  | [d1, d2, d3] => { results := [.lit (.bool true)], args := [d1, d2, d3] }
  | _ => none }
def fourStaysRow : OpenClaim := { program := "ytmidcnfmphlneaa", sum := "06848d73e16f00ec8f56607e7c9c01602958b733d4e1509064488efea44652f9", func := "porthole/portholelaw11.FourStays", spec := "fourStays", unfollowed := true, recurses := true, apart := false }
def FourStaysSaid : Prop := fourStaysRow.holds Try.pinned (OpenSpec.ofChange fourStaysSpec)

/-- ITS FALSE NEIGHBOUR: 'it returns false'. Refute it at one input. -/
def fourStaysWrong : ChangeSpec := { name := "fourStays", fn := fun _ => fun
  | [d1, d2, d3] => { results := [.lit (.bool false)], args := [d1, d2, d3] }
  | _ => none }
def FourStaysWrongFalsely : Prop := fourStaysRow.holds Try.pinned (OpenSpec.ofChange fourStaysWrong)

/- THE SECOND FORM. 'bulk': how many values and letters a reading holds, each counted each time it is reached (what is shared counts as often as it is met; a slice's spare places count too). A statement '..UptoSaid' is the law's where the arguments, and the package variables that the reading takes, are together of bulk at most 1048576: NARROWER than '..Said'. Prove '..Said' where nothing that the law and all that it calls make is longer than what came in: it says more and counts as full. Else prove '..UptoSaid'. A law counts once. -/
mutual
def uptoBulk {H : Type} : DataW H → Nat
  | .lit (.string bytes) => bytes.length + 1
  | .lit _ => 1
  | .nil => 1
  | .ptr d => uptoBulk d + 1
  | .slice elems spare => uptoBulkAll elems + uptoBulkAll spare + 1
  | .agg parts => uptoBulkAll parts + 1
  | .iface _ d => uptoBulk d + 1
  | .map entries => uptoBulkEntries entries + 1
  | .held _ => 1
def uptoBulkAll {H : Type} : List (DataW H) → Nat
  | [] => 0
  | d :: r => uptoBulk d + uptoBulkAll r
def uptoBulkEntries {H : Type} : List (Lit × DataW H) → Nat
  | [] => 0
  | x :: r => uptoBulkEntry x + uptoBulkEntries r
def uptoBulkEntry {H : Type} : Lit × DataW H → Nat
  | (.string bytes, d) => bytes.length + uptoBulk d + 1
  | (_, d) => uptoBulk d + 1
 end
def uptoSmall : (H : Type) → List (DataW H) → Bool := fun _ ds => decide (uptoBulkAll ds ≤ 1048576)
def OpenSpec.upto (s : _root_.Go.ChangeSpec) : _root_.Go.OpenSpec := { _root_.Go.OpenSpec.ofChange s with cond := some uptoSmall }

/-- 'portholelaw11.FourAtomic', WHERE WHAT IT READS IS OF BULK AT MOST 1048576: true; the input reads as it did. -/
def fourAtomicUptoRow : OpenClaim := { program := "ytmidcnfmphlneaa", sum := "06848d73e16f00ec8f56607e7c9c01602958b733d4e1509064488efea44652f9", func := "porthole/portholelaw11.FourAtomic", spec := "fourAtomic", unfollowed := true, recurses := true, apart := false, narrowed := true }
def FourAtomicUptoSaid : Prop := fourAtomicUptoRow.holds Try.pinned (OpenSpec.upto fourAtomicSpec)

/-- 'portholelaw11.FourAlone', WHERE WHAT IT READS IS OF BULK AT MOST 1048576: true; the input reads as it did. -/
def fourAloneUptoRow : OpenClaim := { program := "ytmidcnfmphlneaa", sum := "06848d73e16f00ec8f56607e7c9c01602958b733d4e1509064488efea44652f9", func := "porthole/portholelaw11.FourAlone", spec := "fourAlone", unfollowed := true, recurses := true, apart := false, narrowed := true }
def FourAloneUptoSaid : Prop := fourAloneUptoRow.holds Try.pinned (OpenSpec.upto fourAloneSpec)

/-- 'portholelaw11.FourApart', WHERE WHAT IT READS IS OF BULK AT MOST 1048576: true; the input reads as it did. -/
def fourApartUptoRow : OpenClaim := { program := "ytmidcnfmphlneaa", sum := "06848d73e16f00ec8f56607e7c9c01602958b733d4e1509064488efea44652f9", func := "porthole/portholelaw11.FourApart", spec := "fourApart", unfollowed := true, recurses := true, apart := false, narrowed := true }
def FourApartUptoSaid : Prop := fourApartUptoRow.holds Try.pinned (OpenSpec.upto fourApartSpec)

/-- 'portholelaw11.FourStays', WHERE WHAT IT READS IS OF BULK AT MOST 1048576: true; the input reads as it did. -/
def fourStaysUptoRow : OpenClaim := { program := "ytmidcnfmphlneaa", sum := "06848d73e16f00ec8f56607e7c9c01602958b733d4e1509064488efea44652f9", func := "porthole/portholelaw11.FourStays", spec := "fourStays", unfollowed := true, recurses := true, apart := false, narrowed := true }
def FourStaysUptoSaid : Prop := fourStaysUptoRow.holds Try.pinned (OpenSpec.upto fourStaysSpec)

end Rows
end Go.Proofs.Ytmidcnfmphlneaa

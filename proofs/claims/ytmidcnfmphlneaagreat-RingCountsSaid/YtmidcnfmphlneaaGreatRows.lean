/-
  No cell of these rows narrows 'for every input' (looked for: loops, veiled, ifaces, maps, wideKeys, modest, calm, conditions, laid).
  DERIVED. THE GIVEN ROWS OF THIS SEAT. 8 by the template 'for every input the law returns true; each argument reads behind the call as it read before'; 0 by the template 'total and deterministic' (their statements: YtmidcnfmphlneaaGreatTotals.lean).
  GIVEN WITH THE SEED: the statements are not yours to turn. If you find one false, say at which input.
  Laid BY PROGRAM, IN A SANDBOX (cutbox-rows.mjs): the forced cells as the released guide's own fill.sh prints them over the translation 46ac104b1c08174d… (all of the seat's roots in one cut). By AI agents, Wed Nov 11 2026. No macro, syntax, notation, axiom, sorry.
-/
import Derived.Test.YtmidcnfmphlneaaGreatChecked
import GoSem.Claim
import GoSem.ClaimJoined
import GoSem.ClaimMapViews
import Derived.JoinedTies
import Derived.KernelRfl
namespace Go.Proofs.YtmidcnfmphlneaaGreat
/- THE CELL 'sum', in the pinned program and in every row, IS THE sha256 OF THE DUMP (.gsa) THAT YtmidcnfmphlneaaGreatProg.lean LOADS. Nothing in Lean hashes anything: it is a label: what it is worth is what the hold of that sum in a sandbox is worth. -/
noncomputable def Tryz.pinned : Pinned := { name := "ytmidcnfmphlneaagreat", sum := "46ac104b1c08174d86f8ecb4a5b3cbb666c4bd7ac5e25c650f51fc3f81a5ef85", checked := Tryz.checked }
namespace Rows
def none {H : Type} : Left H := { results := [], args := [] }

/-- 'portholelaw11.FourKeeps': WHATEVER THE INPUT: true; the input reads as it did. -/
def fourKeepsSpec : ChangeSpec := { name := "fourKeeps", fn := fun _ => fun
  | [d1, d2] => { results := [.lit (.bool true)], args := [d1, d2] }
  | _ => none }
def fourKeepsRow : OpenClaim := { program := "ytmidcnfmphlneaagreat", sum := "46ac104b1c08174d86f8ecb4a5b3cbb666c4bd7ac5e25c650f51fc3f81a5ef85", func := "porthole/portholelaw11.FourKeeps", spec := "fourKeeps", unfollowed := true, recurses := true, apart := false }
def FourKeepsSaid : Prop := fourKeepsRow.holds Tryz.pinned (OpenSpec.ofChange fourKeepsSpec)

/-- ITS FALSE NEIGHBOUR: 'it returns false'. Refute it at one input. -/
def fourKeepsWrong : ChangeSpec := { name := "fourKeeps", fn := fun _ => fun
  | [d1, d2] => { results := [.lit (.bool false)], args := [d1, d2] }
  | _ => none }
def FourKeepsWrongFalsely : Prop := fourKeepsRow.holds Tryz.pinned (OpenSpec.ofChange fourKeepsWrong)

/-- 'portholelaw11.FourSteps': WHATEVER THE INPUT: true; the input reads as it did. -/
def fourStepsSpec : ChangeSpec := { name := "fourSteps", fn := fun _ => fun
  | [d1, d2, d3] => { results := [.lit (.bool true)], args := [d1, d2, d3] }
  | _ => none }
def fourStepsRow : OpenClaim := { program := "ytmidcnfmphlneaagreat", sum := "46ac104b1c08174d86f8ecb4a5b3cbb666c4bd7ac5e25c650f51fc3f81a5ef85", func := "porthole/portholelaw11.FourSteps", spec := "fourSteps", unfollowed := true, recurses := true, apart := false }
def FourStepsSaid : Prop := fourStepsRow.holds Tryz.pinned (OpenSpec.ofChange fourStepsSpec)

/-- ITS FALSE NEIGHBOUR: 'it returns false'. Refute it at one input. -/
def fourStepsWrong : ChangeSpec := { name := "fourSteps", fn := fun _ => fun
  | [d1, d2, d3] => { results := [.lit (.bool false)], args := [d1, d2, d3] }
  | _ => none }
def FourStepsWrongFalsely : Prop := fourStepsRow.holds Tryz.pinned (OpenSpec.ofChange fourStepsWrong)

/-- 'portholelaw12.RingAtomic': WHATEVER THE INPUT: true; the input reads as it did. -/
def ringAtomicSpec : ChangeSpec := { name := "ringAtomic", fn := fun _ => fun
  | [d1, d2, d3] => { results := [.lit (.bool true)], args := [d1, d2, d3] }
  | _ => none }
def ringAtomicRow : OpenClaim := { program := "ytmidcnfmphlneaagreat", sum := "46ac104b1c08174d86f8ecb4a5b3cbb666c4bd7ac5e25c650f51fc3f81a5ef85", func := "porthole/portholelaw12.RingAtomic", spec := "ringAtomic", unfollowed := true, recurses := true, apart := false }
def RingAtomicSaid : Prop := ringAtomicRow.holds Tryz.pinned (OpenSpec.ofChange ringAtomicSpec)

/-- ITS FALSE NEIGHBOUR: 'it returns false'. Refute it at one input. -/
def ringAtomicWrong : ChangeSpec := { name := "ringAtomic", fn := fun _ => fun
  | [d1, d2, d3] => { results := [.lit (.bool false)], args := [d1, d2, d3] }
  | _ => none }
def RingAtomicWrongFalsely : Prop := ringAtomicRow.holds Tryz.pinned (OpenSpec.ofChange ringAtomicWrong)

/-- 'portholelaw12.RingBoots': WHATEVER THE INPUT: true; the input reads as it did. -/
def ringBootsSpec : ChangeSpec := { name := "ringBoots", fn := fun _ => fun
  | [d1, d2, d3] => { results := [.lit (.bool true)], args := [d1, d2, d3] }
  | _ => none }
def ringBootsRow : OpenClaim := { program := "ytmidcnfmphlneaagreat", sum := "46ac104b1c08174d86f8ecb4a5b3cbb666c4bd7ac5e25c650f51fc3f81a5ef85", func := "porthole/portholelaw12.RingBoots", spec := "ringBoots", unfollowed := true, recurses := true, apart := false }
def RingBootsSaid : Prop := ringBootsRow.holds Tryz.pinned (OpenSpec.ofChange ringBootsSpec)

/-- ITS FALSE NEIGHBOUR: 'it returns false'. Refute it at one input. -/
def ringBootsWrong : ChangeSpec := { name := "ringBoots", fn := fun _ => fun
  | [d1, d2, d3] => { results := [.lit (.bool false)], args := [d1, d2, d3] }
  | _ => none }
def RingBootsWrongFalsely : Prop := ringBootsRow.holds Tryz.pinned (OpenSpec.ofChange ringBootsWrong)

/-- 'portholelaw12.RingRoom': WHATEVER THE INPUT: true; the input reads as it did. -/
def ringRoomSpec : ChangeSpec := { name := "ringRoom", fn := fun _ => fun
  | [d1, d2] => { results := [.lit (.bool true)], args := [d1, d2] }
  | _ => none }
def ringRoomRow : OpenClaim := { program := "ytmidcnfmphlneaagreat", sum := "46ac104b1c08174d86f8ecb4a5b3cbb666c4bd7ac5e25c650f51fc3f81a5ef85", func := "porthole/portholelaw12.RingRoom", spec := "ringRoom", unfollowed := true, recurses := true, apart := false }
def RingRoomSaid : Prop := ringRoomRow.holds Tryz.pinned (OpenSpec.ofChange ringRoomSpec)

/-- ITS FALSE NEIGHBOUR: 'it returns false'. Refute it at one input. -/
def ringRoomWrong : ChangeSpec := { name := "ringRoom", fn := fun _ => fun
  | [d1, d2] => { results := [.lit (.bool false)], args := [d1, d2] }
  | _ => none }
def RingRoomWrongFalsely : Prop := ringRoomRow.holds Tryz.pinned (OpenSpec.ofChange ringRoomWrong)

/-- 'portholelaw12.RingKeeps': WHATEVER THE INPUT: true; the input reads as it did. -/
def ringKeepsSpec : ChangeSpec := { name := "ringKeeps", fn := fun _ => fun
  | [d1, d2] => { results := [.lit (.bool true)], args := [d1, d2] }
  | _ => none }
def ringKeepsRow : OpenClaim := { program := "ytmidcnfmphlneaagreat", sum := "46ac104b1c08174d86f8ecb4a5b3cbb666c4bd7ac5e25c650f51fc3f81a5ef85", func := "porthole/portholelaw12.RingKeeps", spec := "ringKeeps", unfollowed := true, recurses := true, apart := false }
def RingKeepsSaid : Prop := ringKeepsRow.holds Tryz.pinned (OpenSpec.ofChange ringKeepsSpec)

/-- ITS FALSE NEIGHBOUR: 'it returns false'. Refute it at one input. -/
def ringKeepsWrong : ChangeSpec := { name := "ringKeeps", fn := fun _ => fun
  | [d1, d2] => { results := [.lit (.bool false)], args := [d1, d2] }
  | _ => none }
def RingKeepsWrongFalsely : Prop := ringKeepsRow.holds Tryz.pinned (OpenSpec.ofChange ringKeepsWrong)

/-- 'portholelaw12.RingCounts': WHATEVER THE INPUT: true; the input reads as it did. -/
def ringCountsSpec : ChangeSpec := { name := "ringCounts", fn := fun _ => fun
  | [d1, d2, d3] => { results := [.lit (.bool true)], args := [d1, d2, d3] }
  | _ => none }
def ringCountsRow : OpenClaim := { program := "ytmidcnfmphlneaagreat", sum := "46ac104b1c08174d86f8ecb4a5b3cbb666c4bd7ac5e25c650f51fc3f81a5ef85", func := "porthole/portholelaw12.RingCounts", spec := "ringCounts", unfollowed := true, recurses := true, apart := false }
def RingCountsSaid : Prop := ringCountsRow.holds Tryz.pinned (OpenSpec.ofChange ringCountsSpec)

/-- ITS FALSE NEIGHBOUR: 'it returns false'. Refute it at one input. -/
def ringCountsWrong : ChangeSpec := { name := "ringCounts", fn := fun _ => fun
  | [d1, d2, d3] => { results := [.lit (.bool false)], args := [d1, d2, d3] }
  | _ => none }
def RingCountsWrongFalsely : Prop := ringCountsRow.holds Tryz.pinned (OpenSpec.ofChange ringCountsWrong)

/-- 'portholelaw12.RingSteps': WHATEVER THE INPUT: true; the input reads as it did. -/
def ringStepsSpec : ChangeSpec := { name := "ringSteps", fn := fun _ => fun
  | [d1, d2, d3] => { results := [.lit (.bool true)], args := [d1, d2, d3] }
  | _ => none }
def ringStepsRow : OpenClaim := { program := "ytmidcnfmphlneaagreat", sum := "46ac104b1c08174d86f8ecb4a5b3cbb666c4bd7ac5e25c650f51fc3f81a5ef85", func := "porthole/portholelaw12.RingSteps", spec := "ringSteps", unfollowed := true, recurses := true, apart := false }
def RingStepsSaid : Prop := ringStepsRow.holds Tryz.pinned (OpenSpec.ofChange ringStepsSpec)

/-- ITS FALSE NEIGHBOUR: 'it returns false'. Refute it at one input. -/
def ringStepsWrong : ChangeSpec := { name := "ringSteps", fn := fun _ => fun
  | [d1, d2, d3] => { results := [.lit (.bool false)], args := [d1, d2, d3] }
  | _ => none }
def RingStepsWrongFalsely : Prop := ringStepsRow.holds Tryz.pinned (OpenSpec.ofChange ringStepsWrong)

/- THE SECOND FORM. 'bulk': how many values and letters a reading holds, each counted each time it is reached (what is shared counts as often as it is met; a slice's spare places count too). A statement '..UptoSaid' is the law's where the arguments, and the package variables that the reading takes, are together of bulk at most 1048576: NARROWER than '..Said'. Prove '..Said' where nothing that the law and all that it calls make is longer than what came in: it says more and counts as full. Else prove '..UptoSaid'. A law counts once. -/
mutual
def uptoBulk {H : Type} : DataW H → Nat
  | .lit (.string bytes) => bytes.length + 1
  | .lit _ => 1
  | .nil => 1
  | .ptr d => uptoBulk d + 1
  | .slice elems spare => uptoBulkAll elems + uptoBulkAll spare + 1
  | .agg parts => uptoBulkAll parts + 1
  | .iface _ d => uptoBulk d + 1
  | .map entries => uptoBulkEntries entries + 1
  | .held _ => 1
def uptoBulkAll {H : Type} : List (DataW H) → Nat
  | [] => 0
  | d :: r => uptoBulk d + uptoBulkAll r
def uptoBulkEntries {H : Type} : List (Lit × DataW H) → Nat
  | [] => 0
  | x :: r => uptoBulkEntry x + uptoBulkEntries r
def uptoBulkEntry {H : Type} : Lit × DataW H → Nat
  | (.string bytes, d) => bytes.length + uptoBulk d + 1
  | (_, d) => uptoBulk d + 1
 end
def uptoSmall : (H : Type) → List (DataW H) → Bool := fun _ ds => decide (uptoBulkAll ds ≤ 1048576)
def OpenSpec.upto (s : _root_.Go.ChangeSpec) : _root_.Go.OpenSpec := { _root_.Go.OpenSpec.ofChange s with cond := some uptoSmall }

/-- 'portholelaw11.FourKeeps', WHERE WHAT IT READS IS OF BULK AT MOST 1048576: true; the input reads as it did. -/
def fourKeepsUptoRow : OpenClaim := { program := "ytmidcnfmphlneaagreat", sum := "46ac104b1c08174d86f8ecb4a5b3cbb666c4bd7ac5e25c650f51fc3f81a5ef85", func := "porthole/portholelaw11.FourKeeps", spec := "fourKeeps", unfollowed := true, recurses := true, apart := false, narrowed := true }
def FourKeepsUptoSaid : Prop := fourKeepsUptoRow.holds Tryz.pinned (OpenSpec.upto fourKeepsSpec)

/-- 'portholelaw11.FourSteps', WHERE WHAT IT READS IS OF BULK AT MOST 1048576: true; the input reads as it did. -/
def fourStepsUptoRow : OpenClaim := { program := "ytmidcnfmphlneaagreat", sum := "46ac104b1c08174d86f8ecb4a5b3cbb666c4bd7ac5e25c650f51fc3f81a5ef85", func := "porthole/portholelaw11.FourSteps", spec := "fourSteps", unfollowed := true, recurses := true, apart := false, narrowed := true }
def FourStepsUptoSaid : Prop := fourStepsUptoRow.holds Tryz.pinned (OpenSpec.upto fourStepsSpec)

/-- 'portholelaw12.RingAtomic', WHERE WHAT IT READS IS OF BULK AT MOST 1048576: true; the input reads as it did. -/
def ringAtomicUptoRow : OpenClaim := { program := "ytmidcnfmphlneaagreat", sum := "46ac104b1c08174d86f8ecb4a5b3cbb666c4bd7ac5e25c650f51fc3f81a5ef85", func := "porthole/portholelaw12.RingAtomic", spec := "ringAtomic", unfollowed := true, recurses := true, apart := false, narrowed := true }
def RingAtomicUptoSaid : Prop := ringAtomicUptoRow.holds Tryz.pinned (OpenSpec.upto ringAtomicSpec)

/-- 'portholelaw12.RingBoots', WHERE WHAT IT READS IS OF BULK AT MOST 1048576: true; the input reads as it did. -/
def ringBootsUptoRow : OpenClaim := { program := "ytmidcnfmphlneaagreat", sum := "46ac104b1c08174d86f8ecb4a5b3cbb666c4bd7ac5e25c650f51fc3f81a5ef85", func := "porthole/portholelaw12.RingBoots", spec := "ringBoots", unfollowed := true, recurses := true, apart := false, narrowed := true }
def RingBootsUptoSaid : Prop := ringBootsUptoRow.holds Tryz.pinned (OpenSpec.upto ringBootsSpec)

/-- 'portholelaw12.RingRoom', WHERE WHAT IT READS IS OF BULK AT MOST 1048576: true; the input reads as it did. -/
def ringRoomUptoRow : OpenClaim := { program := "ytmidcnfmphlneaagreat", sum := "46ac104b1c08174d86f8ecb4a5b3cbb666c4bd7ac5e25c650f51fc3f81a5ef85", func := "porthole/portholelaw12.RingRoom", spec := "ringRoom", unfollowed := true, recurses := true, apart := false, narrowed := true }
def RingRoomUptoSaid : Prop := ringRoomUptoRow.holds Tryz.pinned (OpenSpec.upto ringRoomSpec)

/-- 'portholelaw12.RingKeeps', WHERE WHAT IT READS IS OF BULK AT MOST 1048576: true; the input reads as it did. -/
def ringKeepsUptoRow : OpenClaim := { program := "ytmidcnfmphlneaagreat", sum := "46ac104b1c08174d86f8ecb4a5b3cbb666c4bd7ac5e25c650f51fc3f81a5ef85", func := "porthole/portholelaw12.RingKeeps", spec := "ringKeeps", unfollowed := true, recurses := true, apart := false, narrowed := true }
def RingKeepsUptoSaid : Prop := ringKeepsUptoRow.holds Tryz.pinned (OpenSpec.upto ringKeepsSpec)

/-- 'portholelaw12.RingCounts', WHERE WHAT IT READS IS OF BULK AT MOST 1048576: true; the input reads as it did. -/
def ringCountsUptoRow : OpenClaim := { program := "ytmidcnfmphlneaagreat", sum := "46ac104b1c08174d86f8ecb4a5b3cbb666c4bd7ac5e25c650f51fc3f81a5ef85", func := "porthole/portholelaw12.RingCounts", spec := "ringCounts", unfollowed := true, recurses := true, apart := false, narrowed := true }
def RingCountsUptoSaid : Prop := ringCountsUptoRow.holds Tryz.pinned (OpenSpec.upto ringCountsSpec)

/-- 'portholelaw12.RingSteps', WHERE WHAT IT READS IS OF BULK AT MOST 1048576: true; the input reads as it did. -/
def ringStepsUptoRow : OpenClaim := { program := "ytmidcnfmphlneaagreat", sum := "46ac104b1c08174d86f8ecb4a5b3cbb666c4bd7ac5e25c650f51fc3f81a5ef85", func := "porthole/portholelaw12.RingSteps", spec := "ringSteps", unfollowed := true, recurses := true, apart := false, narrowed := true }
def RingStepsUptoSaid : Prop := ringStepsUptoRow.holds Tryz.pinned (OpenSpec.upto ringStepsSpec)

end Rows
end Go.Proofs.YtmidcnfmphlneaaGreat

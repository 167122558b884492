/-
  No cell of these rows narrows 'for every input' (looked for: loops, veiled, ifaces, maps, wideKeys, modest, calm, conditions, laid).
  DERIVED. THE GIVEN ROWS OF THIS SEAT. 10 by the template 'for every input the law returns true; each argument reads behind the call as it read before'; 0 by the template 'total and deterministic' (their statements: YtimikgencnkcnaaTotals.lean).
  GIVEN WITH THE SEED: the statements are not yours to turn. If you find one false, say at which input.
  Laid BY PROGRAM, IN A SANDBOX (cutbox-rows.mjs): the forced cells as the released guide's own fill.sh prints them over the translation d18a588713e322c0… (all of the seat's roots in one cut). By AI agents, Wed Nov 11 2026. No macro, syntax, notation, axiom, sorry.
-/
import Derived.Test.YtimikgencnkcnaaChecked
import GoSem.Claim
import GoSem.ClaimJoined
import GoSem.ClaimMapViews
import Derived.JoinedTies
import Derived.KernelRfl
namespace Go.Proofs.Ytimikgencnkcnaa
/- THE CELL 'sum', in the pinned program and in every row, IS THE sha256 OF THE DUMP (.gsa) THAT YtimikgencnkcnaaProg.lean LOADS. Nothing in Lean hashes anything: it is a label: what it is worth is what the hold of that sum in a sandbox is worth. -/
noncomputable def Try.pinned : Pinned := { name := "ytimikgencnkcnaa", sum := "d18a588713e322c026c4996b829b41251e72dadd5bc5d331f887fe0e25f4d913", checked := Try.checked }
namespace Rows
def none {H : Type} : Left H := { results := [], args := [] }

/-- 'portholelaw01.SpanHas': WHATEVER THE INPUT: true; the input reads as it did. -/
def spanHasSpec : ChangeSpec := { name := "spanHas", fn := fun _ => fun
  | [d1, d2] => { results := [.lit (.bool true)], args := [d1, d2] }
  | _ => none }
def spanHasRow : OpenClaim := { program := "ytimikgencnkcnaa", sum := "d18a588713e322c026c4996b829b41251e72dadd5bc5d331f887fe0e25f4d913", func := "porthole/portholelaw01.SpanHas", spec := "spanHas", apart := false }
def SpanHasSaid : Prop := spanHasRow.holds Try.pinned (OpenSpec.ofChange spanHasSpec)

/-- ITS FALSE NEIGHBOUR: 'it returns false'. Refute it at one input. -/
def spanHasWrong : ChangeSpec := { name := "spanHas", fn := fun _ => fun
  | [d1, d2] => { results := [.lit (.bool false)], args := [d1, d2] }
  | _ => none }
def SpanHasWrongFalsely : Prop := spanHasRow.holds Try.pinned (OpenSpec.ofChange spanHasWrong)

/-- 'portholelaw01.SpanMeets': WHATEVER THE INPUT: true; the input reads as it did. -/
def spanMeetsSpec : ChangeSpec := { name := "spanMeets", fn := fun _ => fun
  | [d1, d2] => { results := [.lit (.bool true)], args := [d1, d2] }
  | _ => none }
def spanMeetsRow : OpenClaim := { program := "ytimikgencnkcnaa", sum := "d18a588713e322c026c4996b829b41251e72dadd5bc5d331f887fe0e25f4d913", func := "porthole/portholelaw01.SpanMeets", spec := "spanMeets", apart := false }
def SpanMeetsSaid : Prop := spanMeetsRow.holds Try.pinned (OpenSpec.ofChange spanMeetsSpec)

/-- ITS FALSE NEIGHBOUR: 'it returns false'. Refute it at one input. -/
def spanMeetsWrong : ChangeSpec := { name := "spanMeets", fn := fun _ => fun
  | [d1, d2] => { results := [.lit (.bool false)], args := [d1, d2] }
  | _ => none }
def SpanMeetsWrongFalsely : Prop := spanMeetsRow.holds Try.pinned (OpenSpec.ofChange spanMeetsWrong)

/-- 'portholelaw01.SpanMoves': WHATEVER THE INPUT: true; the input reads as it did. -/
def spanMovesSpec : ChangeSpec := { name := "spanMoves", fn := fun _ => fun
  | [d1, d2, d3] => { results := [.lit (.bool true)], args := [d1, d2, d3] }
  | _ => none }
def spanMovesRow : OpenClaim := { program := "ytimikgencnkcnaa", sum := "d18a588713e322c026c4996b829b41251e72dadd5bc5d331f887fe0e25f4d913", func := "porthole/portholelaw01.SpanMoves", spec := "spanMoves", apart := false }
def SpanMovesSaid : Prop := spanMovesRow.holds Try.pinned (OpenSpec.ofChange spanMovesSpec)

/-- ITS FALSE NEIGHBOUR: 'it returns false'. Refute it at one input. -/
def spanMovesWrong : ChangeSpec := { name := "spanMoves", fn := fun _ => fun
  | [d1, d2, d3] => { results := [.lit (.bool false)], args := [d1, d2, d3] }
  | _ => none }
def SpanMovesWrongFalsely : Prop := spanMovesRow.holds Try.pinned (OpenSpec.ofChange spanMovesWrong)

/-- 'portholelaw01.SpanShares': WHATEVER THE INPUT: true; the input reads as it did. -/
def spanSharesSpec : ChangeSpec := { name := "spanShares", fn := fun _ => fun
  | [d1, d2] => { results := [.lit (.bool true)], args := [d1, d2] }
  | _ => none }
def spanSharesRow : OpenClaim := { program := "ytimikgencnkcnaa", sum := "d18a588713e322c026c4996b829b41251e72dadd5bc5d331f887fe0e25f4d913", func := "porthole/portholelaw01.SpanShares", spec := "spanShares", apart := false }
def SpanSharesSaid : Prop := spanSharesRow.holds Try.pinned (OpenSpec.ofChange spanSharesSpec)

/-- ITS FALSE NEIGHBOUR: 'it returns false'. Refute it at one input. -/
def spanSharesWrong : ChangeSpec := { name := "spanShares", fn := fun _ => fun
  | [d1, d2] => { results := [.lit (.bool false)], args := [d1, d2] }
  | _ => none }
def SpanSharesWrongFalsely : Prop := spanSharesRow.holds Try.pinned (OpenSpec.ofChange spanSharesWrong)

/-- 'portholelaw01.SpanApart': WHATEVER THE INPUT: true; the input reads as it did. -/
def spanApartSpec : ChangeSpec := { name := "spanApart", fn := fun _ => fun
  | [d] => { results := [.lit (.bool true)], args := [d] }
  | _ => none }
def spanApartRow : OpenClaim := { program := "ytimikgencnkcnaa", sum := "d18a588713e322c026c4996b829b41251e72dadd5bc5d331f887fe0e25f4d913", func := "porthole/portholelaw01.SpanApart", spec := "spanApart", apart := false }
def SpanApartSaid : Prop := spanApartRow.holds Try.pinned (OpenSpec.ofChange spanApartSpec)

/-- ITS FALSE NEIGHBOUR: 'it returns false'. Refute it at one input. -/
def spanApartWrong : ChangeSpec := { name := "spanApart", fn := fun _ => fun
  | [d] => { results := [.lit (.bool false)], args := [d] }
  | _ => none }
def SpanApartWrongFalsely : Prop := spanApartRow.holds Try.pinned (OpenSpec.ofChange spanApartWrong)

/-- 'portholelaw01.SpanAll': WHATEVER THE INPUT: true; the input reads as it did. -/
def spanAllSpec : ChangeSpec := { name := "spanAll", fn := fun _ => fun
  | [d1, d2] => { results := [.lit (.bool true)], args := [d1, d2] }
  | _ => none }
def spanAllRow : OpenClaim := { program := "ytimikgencnkcnaa", sum := "d18a588713e322c026c4996b829b41251e72dadd5bc5d331f887fe0e25f4d913", func := "porthole/portholelaw01.SpanAll", spec := "spanAll", unfollowed := true, recurses := true, apart := false }
def SpanAllSaid : Prop := spanAllRow.holds Try.pinned (OpenSpec.ofChange spanAllSpec)

/-- ITS FALSE NEIGHBOUR: 'it returns false'. Refute it at one input. -/
def spanAllWrong : ChangeSpec := { name := "spanAll", fn := fun _ => fun
  | [d1, d2] => { results := [.lit (.bool false)], args := [d1, d2] }
  | _ => none }
def SpanAllWrongFalsely : Prop := spanAllRow.holds Try.pinned (OpenSpec.ofChange spanAllWrong)

/-- 'portholelaw02.MemStores': WHATEVER THE INPUT: true; the input reads as it did. -/
def memStoresSpec : ChangeSpec := { name := "memStores", fn := fun _ => fun
  | [d1, d2, d3] => { results := [.lit (.bool true)], args := [d1, d2, d3] }
  | _ => none }
def memStoresRow : OpenClaim := { program := "ytimikgencnkcnaa", sum := "d18a588713e322c026c4996b829b41251e72dadd5bc5d331f887fe0e25f4d913", func := "porthole/portholelaw02.MemStores", spec := "memStores", apart := false }
def MemStoresSaid : Prop := memStoresRow.holds Try.pinned (OpenSpec.ofChange memStoresSpec)

/-- ITS FALSE NEIGHBOUR: 'it returns false'. Refute it at one input. -/
def memStoresWrong : ChangeSpec := { name := "memStores", fn := fun _ => fun
  | [d1, d2, d3] => { results := [.lit (.bool false)], args := [d1, d2, d3] }
  | _ => none }
def MemStoresWrongFalsely : Prop := memStoresRow.holds Try.pinned (OpenSpec.ofChange memStoresWrong)

/-- 'portholelaw02.MemOthers': WHATEVER THE INPUT: true; the input reads as it did. -/
def memOthersSpec : ChangeSpec := { name := "memOthers", fn := fun _ => fun
  | [d1, d2, d3] => { results := [.lit (.bool true)], args := [d1, d2, d3] }
  | _ => none }
def memOthersRow : OpenClaim := { program := "ytimikgencnkcnaa", sum := "d18a588713e322c026c4996b829b41251e72dadd5bc5d331f887fe0e25f4d913", func := "porthole/portholelaw02.MemOthers", spec := "memOthers", apart := false }
def MemOthersSaid : Prop := memOthersRow.holds Try.pinned (OpenSpec.ofChange memOthersSpec)

/-- ITS FALSE NEIGHBOUR: 'it returns false'. Refute it at one input. -/
def memOthersWrong : ChangeSpec := { name := "memOthers", fn := fun _ => fun
  | [d1, d2, d3] => { results := [.lit (.bool false)], args := [d1, d2, d3] }
  | _ => none }
def MemOthersWrongFalsely : Prop := memOthersRow.holds Try.pinned (OpenSpec.ofChange memOthersWrong)

/-- 'portholelaw02.MemNew': WHATEVER THE INPUT: true; the input reads as it did. -/
def memNewSpec : ChangeSpec := { name := "memNew", fn := fun _ => fun
  | [d] => { results := [.lit (.bool true)], args := [d] }
  | _ => none }
def memNewRow : OpenClaim := { program := "ytimikgencnkcnaa", sum := "d18a588713e322c026c4996b829b41251e72dadd5bc5d331f887fe0e25f4d913", func := "porthole/portholelaw02.MemNew", spec := "memNew", apart := false }
def MemNewSaid : Prop := memNewRow.holds Try.pinned (OpenSpec.ofChange memNewSpec)

/-- ITS FALSE NEIGHBOUR: 'it returns false'. Refute it at one input. -/
def memNewWrong : ChangeSpec := { name := "memNew", fn := fun _ => fun
  | [d] => { results := [.lit (.bool false)], args := [d] }
  | _ => none }
def MemNewWrongFalsely : Prop := memNewRow.holds Try.pinned (OpenSpec.ofChange memNewWrong)

/-- 'portholelaw02.MemAll': WHATEVER THE INPUT: true; the input reads as it did. -/
def memAllSpec : ChangeSpec := { name := "memAll", fn := fun _ => fun
  | [d1, d2, d3] => { results := [.lit (.bool true)], args := [d1, d2, d3] }
  | _ => none }
def memAllRow : OpenClaim := { program := "ytimikgencnkcnaa", sum := "d18a588713e322c026c4996b829b41251e72dadd5bc5d331f887fe0e25f4d913", func := "porthole/portholelaw02.MemAll", spec := "memAll", unfollowed := true, recurses := true, apart := false }
def MemAllSaid : Prop := memAllRow.holds Try.pinned (OpenSpec.ofChange memAllSpec)

/-- ITS FALSE NEIGHBOUR: 'it returns false'. Refute it at one input. -/
def memAllWrong : ChangeSpec := { name := "memAll", fn := fun _ => fun
  | [d1, d2, d3] => { results := [.lit (.bool false)], args := [d1, d2, d3] }
  | _ => none }
def MemAllWrongFalsely : Prop := memAllRow.holds Try.pinned (OpenSpec.ofChange memAllWrong)

/- THE SECOND FORM. 'bulk': how many values and letters a reading holds, each counted each time it is reached (what is shared counts as often as it is met; a slice's spare places count too). A statement '..UptoSaid' is the law's where the arguments, and the package variables that the reading takes, are together of bulk at most 1048576: NARROWER than '..Said'. Prove '..Said' where nothing that the law and all that it calls make is longer than what came in: it says more and counts as full. Else prove '..UptoSaid'. A law counts once. -/
mutual
def uptoBulk {H : Type} : DataW H → Nat
  | .lit (.string bytes) => bytes.length + 1
  | .lit _ => 1
  | .nil => 1
  | .ptr d => uptoBulk d + 1
  | .slice elems spare => uptoBulkAll elems + uptoBulkAll spare + 1
  | .agg parts => uptoBulkAll parts + 1
  | .iface _ d => uptoBulk d + 1
  | .map entries => uptoBulkEntries entries + 1
  | .held _ => 1
def uptoBulkAll {H : Type} : List (DataW H) → Nat
  | [] => 0
  | d :: r => uptoBulk d + uptoBulkAll r
def uptoBulkEntries {H : Type} : List (Lit × DataW H) → Nat
  | [] => 0
  | x :: r => uptoBulkEntry x + uptoBulkEntries r
def uptoBulkEntry {H : Type} : Lit × DataW H → Nat
  | (.string bytes, d) => bytes.length + uptoBulk d + 1
  | (_, d) => uptoBulk d + 1
 end
def uptoSmall : (H : Type) → List (DataW H) → Bool := fun _ ds => decide (uptoBulkAll ds ≤ 1048576)
def OpenSpec.upto (s : _root_.Go.ChangeSpec) : _root_.Go.OpenSpec := { _root_.Go.OpenSpec.ofChange s with cond := some uptoSmall }

/-- 'portholelaw01.SpanHas', WHERE WHAT IT READS IS OF BULK AT MOST 1048576: true; the input reads as it did. -/
def spanHasUptoRow : OpenClaim := { program := "ytimikgencnkcnaa", sum := "d18a588713e322c026c4996b829b41251e72dadd5bc5d331f887fe0e25f4d913", func := "porthole/portholelaw01.SpanHas", spec := "spanHas", apart := false, narrowed := true }
def SpanHasUptoSaid : Prop := spanHasUptoRow.holds Try.pinned (OpenSpec.upto spanHasSpec)

/-- 'portholelaw01.SpanMeets', WHERE WHAT IT READS IS OF BULK AT MOST 1048576: true; the input reads as it did. -/
def spanMeetsUptoRow : OpenClaim := { program := "ytimikgencnkcnaa", sum := "d18a588713e322c026c4996b829b41251e72dadd5bc5d331f887fe0e25f4d913", func := "porthole/portholelaw01.SpanMeets", spec := "spanMeets", apart := false, narrowed := true }
def SpanMeetsUptoSaid : Prop := spanMeetsUptoRow.holds Try.pinned (OpenSpec.upto spanMeetsSpec)

/-- 'portholelaw01.SpanMoves', WHERE WHAT IT READS IS OF BULK AT MOST 1048576: true; the input reads as it did. -/
def spanMovesUptoRow : OpenClaim := { program := "ytimikgencnkcnaa", sum := "d18a588713e322c026c4996b829b41251e72dadd5bc5d331f887fe0e25f4d913", func := "porthole/portholelaw01.SpanMoves", spec := "spanMoves", apart := false, narrowed := true }
def SpanMovesUptoSaid : Prop := spanMovesUptoRow.holds Try.pinned (OpenSpec.upto spanMovesSpec)

/-- 'portholelaw01.SpanShares', WHERE WHAT IT READS IS OF BULK AT MOST 1048576: true; the input reads as it did. -/
def spanSharesUptoRow : OpenClaim := { program := "ytimikgencnkcnaa", sum := "d18a588713e322c026c4996b829b41251e72dadd5bc5d331f887fe0e25f4d913", func := "porthole/portholelaw01.SpanShares", spec := "spanShares", apart := false, narrowed := true }
def SpanSharesUptoSaid : Prop := spanSharesUptoRow.holds Try.pinned (OpenSpec.upto spanSharesSpec)

/-- 'portholelaw01.SpanApart', WHERE WHAT IT READS IS OF BULK AT MOST 1048576: true; the input reads as it did. -/
def spanApartUptoRow : OpenClaim := { program := "ytimikgencnkcnaa", sum := "d18a588713e322c026c4996b829b41251e72dadd5bc5d331f887fe0e25f4d913", func := "porthole/portholelaw01.SpanApart", spec := "spanApart", apart := false, narrowed := true }
def SpanApartUptoSaid : Prop := spanApartUptoRow.holds Try.pinned (OpenSpec.upto spanApartSpec)

/-- 'portholelaw01.SpanAll', WHERE WHAT IT READS IS OF BULK AT MOST 1048576: true; the input reads as it did. -/
def spanAllUptoRow : OpenClaim := { program := "ytimikgencnkcnaa", sum := "d18a588713e322c026c4996b829b41251e72dadd5bc5d331f887fe0e25f4d913", func := "porthole/portholelaw01.SpanAll", spec := "spanAll", unfollowed := true, recurses := true, apart := false, narrowed := true }
def SpanAllUptoSaid : Prop := spanAllUptoRow.holds Try.pinned (OpenSpec.upto spanAllSpec)

/-- 'portholelaw02.MemStores', WHERE WHAT IT READS IS OF BULK AT MOST 1048576: true; the input reads as it did. -/
def memStoresUptoRow : OpenClaim := { program := "ytimikgencnkcnaa", sum := "d18a588713e322c026c4996b829b41251e72dadd5bc5d331f887fe0e25f4d913", func := "porthole/portholelaw02.MemStores", spec := "memStores", apart := false, narrowed := true }
def MemStoresUptoSaid : Prop := memStoresUptoRow.holds Try.pinned (OpenSpec.upto memStoresSpec)

/-- 'portholelaw02.MemOthers', WHERE WHAT IT READS IS OF BULK AT MOST 1048576: true; the input reads as it did. -/
def memOthersUptoRow : OpenClaim := { program := "ytimikgencnkcnaa", sum := "d18a588713e322c026c4996b829b41251e72dadd5bc5d331f887fe0e25f4d913", func := "porthole/portholelaw02.MemOthers", spec := "memOthers", apart := false, narrowed := true }
def MemOthersUptoSaid : Prop := memOthersUptoRow.holds Try.pinned (OpenSpec.upto memOthersSpec)

/-- 'portholelaw02.MemNew', WHERE WHAT IT READS IS OF BULK AT MOST 1048576: true; the input reads as it did. -/
def memNewUptoRow : OpenClaim := { program := "ytimikgencnkcnaa", sum := "d18a588713e322c026c4996b829b41251e72dadd5bc5d331f887fe0e25f4d913", func := "porthole/portholelaw02.MemNew", spec := "memNew", apart := false, narrowed := true }
def MemNewUptoSaid : Prop := memNewUptoRow.holds Try.pinned (OpenSpec.upto memNewSpec)

/-- 'portholelaw02.MemAll', WHERE WHAT IT READS IS OF BULK AT MOST 1048576: true; the input reads as it did. -/
def memAllUptoRow : OpenClaim := { program := "ytimikgencnkcnaa", sum := "d18a588713e322c026c4996b829b41251e72dadd5bc5d331f887fe0e25f4d913", func := "porthole/portholelaw02.MemAll", spec := "memAll", unfollowed := true, recurses := true, apart := false, narrowed := true }
def MemAllUptoSaid : Prop := memAllUptoRow.holds Try.pinned (OpenSpec.upto memAllSpec)

end Rows
end Go.Proofs.Ytimikgencnkcnaa

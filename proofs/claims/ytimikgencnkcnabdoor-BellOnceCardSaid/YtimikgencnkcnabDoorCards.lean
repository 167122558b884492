/-
  DERIVED. GIVEN WITH THE SEED: THE CARDS: each row of YtimikgencnkcnabDoorRows.lean that lists a variable, with what it lists TIED to the program's text (the seventh form; the later family's looks); each row that meets fmt, with fmt's text TOLD by the authors' own Lean function (tested against real Go, not proved from fmt's source: count such statements apart). THE CARD IS WHAT COUNTS. Prove the row's statement (the work); the ties are given (YtimikgencnkcnabDoorTie.lean); close each card by the builder's one call (the guide's Derived/Test/ToyasCard.lean, 'card_holds'). Laid BY PROGRAM, IN A SANDBOX (cutbox-door.mjs). By AI agents, Wed Nov 11 2026. No macro, syntax, notation, axiom, sorry.
-/
import Derived.Test.YtimikgencnkcnabDoorRows
import GoSem.ClaimSeven
namespace Go.Proofs.YtimikgencnkcnabDoor
namespace Rows

/-- THE TIED CARD OF 'portholelaw04.BellActs'. -/
def bellActsCard : Claim7 := { stood := { row := bellActsRow, standIns := [], harness := (true, "be204383ca1e44cf5ed2f4029ce1b9cbfde89e6fec554e0a2cfaedb23ee2d3a4"), looks := false }, kinds := [], alts := [], laidByText := true, laidKinds := [.data], laidTests := true, laidLooks := .later }
def BellActsCardSaid : Prop := Claim7.holds Tryd.pinned (.plain (OpenSpec.ofChange bellActsSpec)) bellActsCard

/-- THE TIED CARD OF 'portholelaw04.BellHas'. -/
def bellHasCard : Claim7 := { stood := { row := bellHasRow, standIns := [], harness := (true, "be204383ca1e44cf5ed2f4029ce1b9cbfde89e6fec554e0a2cfaedb23ee2d3a4"), looks := false }, kinds := [], alts := [], laidByText := true, laidKinds := [.data], laidTests := true, laidLooks := .later }
def BellHasCardSaid : Prop := Claim7.holds Tryd.pinned (.plain (OpenSpec.ofChange bellHasSpec)) bellHasCard

/-- THE TIED CARD OF 'portholelaw04.BellOnce'. -/
def bellOnceCard : Claim7 := { stood := { row := bellOnceRow, standIns := [], harness := (true, "be204383ca1e44cf5ed2f4029ce1b9cbfde89e6fec554e0a2cfaedb23ee2d3a4"), looks := false }, kinds := [], alts := [], laidByText := true, laidKinds := [.data], laidTests := true, laidLooks := .later }
def BellOnceCardSaid : Prop := Claim7.holds Tryd.pinned (.plain (OpenSpec.ofChange bellOnceSpec)) bellOnceCard

/-- THE TIED CARD OF 'portholelaw04.BellApart'. -/
def bellApartCard : Claim7 := { stood := { row := bellApartRow, standIns := [], harness := (true, "be204383ca1e44cf5ed2f4029ce1b9cbfde89e6fec554e0a2cfaedb23ee2d3a4"), looks := false }, kinds := [], alts := [], laidByText := true, laidKinds := [.data], laidTests := true, laidLooks := .later }
def BellApartCardSaid : Prop := Claim7.holds Tryd.pinned (.plain (OpenSpec.ofChange bellApartSpec)) bellApartCard

/-- THE SECOND FORM's CARD OF 'portholelaw04.BellActs'. -/
def bellActsUptoCard : Claim7 := { stood := { row := bellActsUptoRow, standIns := [], harness := (true, "be204383ca1e44cf5ed2f4029ce1b9cbfde89e6fec554e0a2cfaedb23ee2d3a4"), looks := false }, kinds := [], alts := [], laidByText := true, laidKinds := [.data], laidTests := true, laidLooks := .later }
def BellActsUptoCardSaid : Prop := Claim7.holds Tryd.pinned (.plain (OpenSpec.upto bellActsSpec)) bellActsUptoCard

/-- THE SECOND FORM's CARD OF 'portholelaw04.BellHas'. -/
def bellHasUptoCard : Claim7 := { stood := { row := bellHasUptoRow, standIns := [], harness := (true, "be204383ca1e44cf5ed2f4029ce1b9cbfde89e6fec554e0a2cfaedb23ee2d3a4"), looks := false }, kinds := [], alts := [], laidByText := true, laidKinds := [.data], laidTests := true, laidLooks := .later }
def BellHasUptoCardSaid : Prop := Claim7.holds Tryd.pinned (.plain (OpenSpec.upto bellHasSpec)) bellHasUptoCard

/-- THE SECOND FORM's CARD OF 'portholelaw04.BellOnce'. -/
def bellOnceUptoCard : Claim7 := { stood := { row := bellOnceUptoRow, standIns := [], harness := (true, "be204383ca1e44cf5ed2f4029ce1b9cbfde89e6fec554e0a2cfaedb23ee2d3a4"), looks := false }, kinds := [], alts := [], laidByText := true, laidKinds := [.data], laidTests := true, laidLooks := .later }
def BellOnceUptoCardSaid : Prop := Claim7.holds Tryd.pinned (.plain (OpenSpec.upto bellOnceSpec)) bellOnceUptoCard

/-- THE SECOND FORM's CARD OF 'portholelaw04.BellApart'. -/
def bellApartUptoCard : Claim7 := { stood := { row := bellApartUptoRow, standIns := [], harness := (true, "be204383ca1e44cf5ed2f4029ce1b9cbfde89e6fec554e0a2cfaedb23ee2d3a4"), looks := false }, kinds := [], alts := [], laidByText := true, laidKinds := [.data], laidTests := true, laidLooks := .later }
def BellApartUptoCardSaid : Prop := Claim7.holds Tryd.pinned (.plain (OpenSpec.upto bellApartSpec)) bellApartUptoCard
end Rows
end Go.Proofs.YtimikgencnkcnabDoor

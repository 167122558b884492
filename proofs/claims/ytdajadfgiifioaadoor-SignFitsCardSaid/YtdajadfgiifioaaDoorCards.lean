/-
  DERIVED. GIVEN WITH THE SEED: THE CARDS: each row of YtdajadfgiifioaaDoorRows.lean that lists a variable, with what it lists TIED to the program's text (the seventh form; the later family's looks); each row that meets fmt, with fmt's text TOLD by the authors' own Lean function (tested against real Go, not proved from fmt's source: count such statements apart). THE CARD IS WHAT COUNTS. Prove the row's statement (the work); the ties are given (YtdajadfgiifioaaDoorTie.lean); close each card by the builder's one call (the guide's Derived/Test/ToyasCard.lean, 'card_holds'). Laid BY PROGRAM, IN A SANDBOX (cutbox-door.mjs). By AI agents, Wed Nov 11 2026. No macro, syntax, notation, axiom, sorry.
-/
import Derived.Test.YtdajadfgiifioaaDoorRows
import GoSem.ClaimSeven
namespace Go.Proofs.YtdajadfgiifioaaDoor
namespace Rows

/-- THE TIED CARD OF 'portholelaw10.SignPorts'. -/
def signPortsCard : Claim7 := { stood := { row := signPortsRow, standIns := [], harness := (true, "a87c25ccaa4d923873e455214e60bf82942d6d017a968f3c3447d32210825f47"), looks := false }, kinds := [], alts := [], laidByText := true, laidKinds := [.widerDeep], laidTests := true, laidLooks := .later }
def SignPortsCardSaid : Prop := Claim7.holds Tryd.pinned (.plain (OpenSpec.ofChange signPortsSpec)) signPortsCard

/-- THE TIED CARD OF 'portholelaw10.SignRefused'. -/
def signRefusedCard : Claim7 := { stood := { row := signRefusedRow, standIns := [], harness := (true, "a87c25ccaa4d923873e455214e60bf82942d6d017a968f3c3447d32210825f47"), looks := false }, kinds := [], alts := [], laidByText := true, laidKinds := [.widerDeep], laidTests := true, laidLooks := .later }
def SignRefusedCardSaid : Prop := Claim7.holds Tryd.pinned (.plain (OpenSpec.ofChange signRefusedSpec)) signRefusedCard

/-- THE TIED CARD OF 'portholelaw10.SignFits'. -/
def signFitsCard : Claim7 := { stood := { row := signFitsRow, standIns := [], harness := (true, "a87c25ccaa4d923873e455214e60bf82942d6d017a968f3c3447d32210825f47"), looks := false }, kinds := [], alts := [], laidByText := true, laidKinds := [.widerDeep], laidTests := true, laidLooks := .later }
def SignFitsCardSaid : Prop := Claim7.holds Tryd.pinned (.plain (OpenSpec.ofChange signFitsSpec)) signFitsCard

/-- THE TIED CARD OF 'portholelaw10.SignModes'. -/
def signModesCard : Claim7 := { stood := { row := signModesRow, standIns := [], harness := (true, "a87c25ccaa4d923873e455214e60bf82942d6d017a968f3c3447d32210825f47"), looks := false }, kinds := [], alts := [], laidByText := true, laidKinds := [.widerDeep], laidTests := true, laidLooks := .later }
def SignModesCardSaid : Prop := Claim7.holds Tryd.pinned (.plain (OpenSpec.ofChange signModesSpec)) signModesCard

/-- THE TIED CARD OF 'portholelaw10.SignWords'. -/
def signWordsCard : Claim7 := { stood := { row := signWordsRow, standIns := [], harness := (true, "a87c25ccaa4d923873e455214e60bf82942d6d017a968f3c3447d32210825f47"), looks := false }, kinds := [], alts := [], laidByText := true, laidKinds := [.widerDeep], laidTests := true, laidLooks := .later }
def SignWordsCardSaid : Prop := Claim7.holds Tryd.pinned (.plain (OpenSpec.ofChange signWordsSpec)) signWordsCard

/-- THE TIED CARD OF 'portholelaw18.ModelQueues'. -/
def modelQueuesCard : Claim7 := { stood := { row := modelQueuesRow, standIns := [], harness := (true, "a87c25ccaa4d923873e455214e60bf82942d6d017a968f3c3447d32210825f47"), looks := false }, kinds := [], alts := [], laidByText := true, laidKinds := [.widerDeep], laidTests := true, laidLooks := .later }
def ModelQueuesCardSaid : Prop := Claim7.holds Tryd.pinned (.plain (OpenSpec.ofChange modelQueuesSpec)) modelQueuesCard

/-- THE TIED CARD OF 'portholelaw18.ModelReads'. -/
def modelReadsCard : Claim7 := { stood := { row := modelReadsRow, standIns := [], harness := (true, "a87c25ccaa4d923873e455214e60bf82942d6d017a968f3c3447d32210825f47"), looks := false }, kinds := [], alts := [], laidByText := true, laidKinds := [.widerDeep], laidTests := true, laidLooks := .later }
def ModelReadsCardSaid : Prop := Claim7.holds Tryd.pinned (.plain (OpenSpec.ofChange modelReadsSpec)) modelReadsCard

/-- THE SECOND FORM's CARD OF 'portholelaw10.SignPorts'. -/
def signPortsUptoCard : Claim7 := { stood := { row := signPortsUptoRow, standIns := [], harness := (true, "a87c25ccaa4d923873e455214e60bf82942d6d017a968f3c3447d32210825f47"), looks := false }, kinds := [], alts := [], laidByText := true, laidKinds := [.widerDeep], laidTests := true, laidLooks := .later }
def SignPortsUptoCardSaid : Prop := Claim7.holds Tryd.pinned (.plain (OpenSpec.upto signPortsSpec)) signPortsUptoCard

/-- THE SECOND FORM's CARD OF 'portholelaw10.SignRefused'. -/
def signRefusedUptoCard : Claim7 := { stood := { row := signRefusedUptoRow, standIns := [], harness := (true, "a87c25ccaa4d923873e455214e60bf82942d6d017a968f3c3447d32210825f47"), looks := false }, kinds := [], alts := [], laidByText := true, laidKinds := [.widerDeep], laidTests := true, laidLooks := .later }
def SignRefusedUptoCardSaid : Prop := Claim7.holds Tryd.pinned (.plain (OpenSpec.upto signRefusedSpec)) signRefusedUptoCard

/-- THE SECOND FORM's CARD OF 'portholelaw10.SignFits'. -/
def signFitsUptoCard : Claim7 := { stood := { row := signFitsUptoRow, standIns := [], harness := (true, "a87c25ccaa4d923873e455214e60bf82942d6d017a968f3c3447d32210825f47"), looks := false }, kinds := [], alts := [], laidByText := true, laidKinds := [.widerDeep], laidTests := true, laidLooks := .later }
def SignFitsUptoCardSaid : Prop := Claim7.holds Tryd.pinned (.plain (OpenSpec.upto signFitsSpec)) signFitsUptoCard

/-- THE SECOND FORM's CARD OF 'portholelaw10.SignModes'. -/
def signModesUptoCard : Claim7 := { stood := { row := signModesUptoRow, standIns := [], harness := (true, "a87c25ccaa4d923873e455214e60bf82942d6d017a968f3c3447d32210825f47"), looks := false }, kinds := [], alts := [], laidByText := true, laidKinds := [.widerDeep], laidTests := true, laidLooks := .later }
def SignModesUptoCardSaid : Prop := Claim7.holds Tryd.pinned (.plain (OpenSpec.upto signModesSpec)) signModesUptoCard

/-- THE SECOND FORM's CARD OF 'portholelaw10.SignWords'. -/
def signWordsUptoCard : Claim7 := { stood := { row := signWordsUptoRow, standIns := [], harness := (true, "a87c25ccaa4d923873e455214e60bf82942d6d017a968f3c3447d32210825f47"), looks := false }, kinds := [], alts := [], laidByText := true, laidKinds := [.widerDeep], laidTests := true, laidLooks := .later }
def SignWordsUptoCardSaid : Prop := Claim7.holds Tryd.pinned (.plain (OpenSpec.upto signWordsSpec)) signWordsUptoCard

/-- THE SECOND FORM's CARD OF 'portholelaw18.ModelQueues'. -/
def modelQueuesUptoCard : Claim7 := { stood := { row := modelQueuesUptoRow, standIns := [], harness := (true, "a87c25ccaa4d923873e455214e60bf82942d6d017a968f3c3447d32210825f47"), looks := false }, kinds := [], alts := [], laidByText := true, laidKinds := [.widerDeep], laidTests := true, laidLooks := .later }
def ModelQueuesUptoCardSaid : Prop := Claim7.holds Tryd.pinned (.plain (OpenSpec.upto modelQueuesSpec)) modelQueuesUptoCard

/-- THE SECOND FORM's CARD OF 'portholelaw18.ModelReads'. -/
def modelReadsUptoCard : Claim7 := { stood := { row := modelReadsUptoRow, standIns := [], harness := (true, "a87c25ccaa4d923873e455214e60bf82942d6d017a968f3c3447d32210825f47"), looks := false }, kinds := [], alts := [], laidByText := true, laidKinds := [.widerDeep], laidTests := true, laidLooks := .later }
def ModelReadsUptoCardSaid : Prop := Claim7.holds Tryd.pinned (.plain (OpenSpec.upto modelReadsSpec)) modelReadsUptoCard
end Rows
end Go.Proofs.YtdajadfgiifioaaDoor

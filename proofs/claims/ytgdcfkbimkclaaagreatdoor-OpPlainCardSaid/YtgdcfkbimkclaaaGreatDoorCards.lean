/-
  DERIVED. GIVEN WITH THE SEED: THE CARDS: each row of YtgdcfkbimkclaaaGreatDoorRows.lean that lists a variable, with what it lists TIED to the program's text (the seventh form; the later family's looks); each row that meets fmt, with fmt's text TOLD by the authors' own Lean function (tested against real Go, not proved from fmt's source: count such statements apart). THE CARD IS WHAT COUNTS. Prove the row's statement (the work); the ties are given (YtgdcfkbimkclaaaGreatDoorTie.lean); close each card by the builder's one call (the guide's Derived/Test/ToyasCard.lean, 'card_holds'). Laid BY PROGRAM, IN A SANDBOX (cutbox-door.mjs). By AI agents, Wed Nov 11 2026. No macro, syntax, notation, axiom, sorry.
-/
import Derived.Test.YtgdcfkbimkclaaaGreatDoorRows
import GoSem.ClaimSeven
namespace Go.Proofs.YtgdcfkbimkclaaaGreatDoor
namespace Rows

/-- THE TIED CARD OF 'gessolaw12.OpMay'. -/
def opMayCard : Claim7 := { stood := { row := opMayRow, standIns := [], harness := (true, "c45362f697e38b5cb3f75a6e4c3a141acf65a04172d7361f71d91fc2b30bff55"), looks := true }, kinds := [], alts := [], laidByText := true, laidKinds := [.data], laidTests := true, laidLooks := .later }
def OpMayCardSaid : Prop := Claim7.holds Tryz.pinned (.plain (OpenSpec.ofChange opMaySpec)) opMayCard

/-- THE TIED CARD OF 'gessolaw12.OpPlain'. -/
def opPlainCard : Claim7 := { stood := { row := opPlainRow, standIns := [], harness := (true, "c45362f697e38b5cb3f75a6e4c3a141acf65a04172d7361f71d91fc2b30bff55"), looks := true }, kinds := [], alts := [], laidByText := true, laidKinds := [.data], laidTests := true, laidLooks := .later }
def OpPlainCardSaid : Prop := Claim7.holds Tryz.pinned (.plain (OpenSpec.ofChange opPlainSpec)) opPlainCard

/-- THE TIED CARD OF 'gessolaw12.OpParts'. -/
def opPartsCard : Claim7 := { stood := { row := opPartsRow, standIns := [], harness := (true, "c45362f697e38b5cb3f75a6e4c3a141acf65a04172d7361f71d91fc2b30bff55"), looks := true }, kinds := [], alts := [], laidByText := true, laidKinds := [.data], laidTests := true, laidLooks := .later }
def OpPartsCardSaid : Prop := Claim7.holds Tryz.pinned (.plain (OpenSpec.ofChange opPartsSpec)) opPartsCard

/-- THE TIED CARD OF 'gessolaw12.OpPaints'. -/
def opPaintsCard : Claim7 := { stood := { row := opPaintsRow, standIns := [], harness := (true, "c45362f697e38b5cb3f75a6e4c3a141acf65a04172d7361f71d91fc2b30bff55"), looks := true }, kinds := [], alts := [], laidByText := true, laidKinds := [.data], laidTests := true, laidLooks := .later }
def OpPaintsCardSaid : Prop := Claim7.holds Tryz.pinned (.plain (OpenSpec.ofChange opPaintsSpec)) opPaintsCard

/-- THE TIED CARD OF 'gessolaw12.OpReaches'. -/
def opReachesCard : Claim7 := { stood := { row := opReachesRow, standIns := [], harness := (true, "c45362f697e38b5cb3f75a6e4c3a141acf65a04172d7361f71d91fc2b30bff55"), looks := true }, kinds := [], alts := [], laidByText := true, laidKinds := [.data], laidTests := true, laidLooks := .later }
def OpReachesCardSaid : Prop := Claim7.holds Tryz.pinned (.plain (OpenSpec.ofChange opReachesSpec)) opReachesCard

/-- THE SECOND FORM's CARD OF 'gessolaw12.OpMay'. -/
def opMayUptoCard : Claim7 := { stood := { row := opMayUptoRow, standIns := [], harness := (true, "c45362f697e38b5cb3f75a6e4c3a141acf65a04172d7361f71d91fc2b30bff55"), looks := true }, kinds := [], alts := [], laidByText := true, laidKinds := [.data], laidTests := true, laidLooks := .later }
def OpMayUptoCardSaid : Prop := Claim7.holds Tryz.pinned (.plain (OpenSpec.upto opMaySpec)) opMayUptoCard

/-- THE SECOND FORM's CARD OF 'gessolaw12.OpPlain'. -/
def opPlainUptoCard : Claim7 := { stood := { row := opPlainUptoRow, standIns := [], harness := (true, "c45362f697e38b5cb3f75a6e4c3a141acf65a04172d7361f71d91fc2b30bff55"), looks := true }, kinds := [], alts := [], laidByText := true, laidKinds := [.data], laidTests := true, laidLooks := .later }
def OpPlainUptoCardSaid : Prop := Claim7.holds Tryz.pinned (.plain (OpenSpec.upto opPlainSpec)) opPlainUptoCard

/-- THE SECOND FORM's CARD OF 'gessolaw12.OpParts'. -/
def opPartsUptoCard : Claim7 := { stood := { row := opPartsUptoRow, standIns := [], harness := (true, "c45362f697e38b5cb3f75a6e4c3a141acf65a04172d7361f71d91fc2b30bff55"), looks := true }, kinds := [], alts := [], laidByText := true, laidKinds := [.data], laidTests := true, laidLooks := .later }
def OpPartsUptoCardSaid : Prop := Claim7.holds Tryz.pinned (.plain (OpenSpec.upto opPartsSpec)) opPartsUptoCard

/-- THE SECOND FORM's CARD OF 'gessolaw12.OpPaints'. -/
def opPaintsUptoCard : Claim7 := { stood := { row := opPaintsUptoRow, standIns := [], harness := (true, "c45362f697e38b5cb3f75a6e4c3a141acf65a04172d7361f71d91fc2b30bff55"), looks := true }, kinds := [], alts := [], laidByText := true, laidKinds := [.data], laidTests := true, laidLooks := .later }
def OpPaintsUptoCardSaid : Prop := Claim7.holds Tryz.pinned (.plain (OpenSpec.upto opPaintsSpec)) opPaintsUptoCard

/-- THE SECOND FORM's CARD OF 'gessolaw12.OpReaches'. -/
def opReachesUptoCard : Claim7 := { stood := { row := opReachesUptoRow, standIns := [], harness := (true, "c45362f697e38b5cb3f75a6e4c3a141acf65a04172d7361f71d91fc2b30bff55"), looks := true }, kinds := [], alts := [], laidByText := true, laidKinds := [.data], laidTests := true, laidLooks := .later }
def OpReachesUptoCardSaid : Prop := Claim7.holds Tryz.pinned (.plain (OpenSpec.upto opReachesSpec)) opReachesUptoCard
end Rows
end Go.Proofs.YtgdcfkbimkclaaaGreatDoor

/-
  DERIVED. GIVEN WITH THE SEED: THE CARDS: each row of YthcdkkmjnglmjaaGreatDoorRows.lean that lists a variable, with what it lists TIED to the program's text (the seventh form; the later family's looks); each row that meets fmt, with fmt's text TOLD by the authors' own Lean function (tested against real Go, not proved from fmt's source: count such statements apart). THE CARD IS WHAT COUNTS. Prove the row's statement (the work); the ties are given (YthcdkkmjnglmjaaGreatDoorTie.lean); close each card by the builder's one call (the guide's Derived/Test/ToyasCard.lean, 'card_holds'). Laid BY PROGRAM, IN A SANDBOX (cutbox-door.mjs). By AI agents, Wed Nov 11 2026. No macro, syntax, notation, axiom, sorry.
-/
import Derived.Test.YthcdkkmjnglmjaaGreatDoorRows
import GoSem.ClaimSeven
namespace Go.Proofs.YthcdkkmjnglmjaaGreatDoor
namespace Rows

/-- THE TIED CARD OF 'gessolaw07.DrawFrames'. -/
def drawFramesCard : Claim7 := { stood := { row := drawFramesRow, standIns := [], harness := (true, "fdec31152d07f595ea07138902e75a01f99f5f22b6eaec8a12b05791930e8921"), looks := true }, kinds := [], alts := [], laidByText := true, laidKinds := [.data], laidTests := true, laidLooks := .later }
def DrawFramesCardSaid : Prop := Claim7.holds Tryz.pinned (.plain (OpenSpec.ofChange drawFramesSpec)) drawFramesCard

/-- THE TIED CARD OF 'gessolaw07.DrawStrokes'. -/
def drawStrokesCard : Claim7 := { stood := { row := drawStrokesRow, standIns := [], harness := (true, "fdec31152d07f595ea07138902e75a01f99f5f22b6eaec8a12b05791930e8921"), looks := true }, kinds := [], alts := [], laidByText := true, laidKinds := [.data], laidTests := true, laidLooks := .later }
def DrawStrokesCardSaid : Prop := Claim7.holds Tryz.pinned (.plain (OpenSpec.ofChange drawStrokesSpec)) drawStrokesCard

/-- THE TIED CARD OF 'gessolaw07.DrawOrders'. -/
def drawOrdersCard : Claim7 := { stood := { row := drawOrdersRow, standIns := [], harness := (true, "fdec31152d07f595ea07138902e75a01f99f5f22b6eaec8a12b05791930e8921"), looks := true }, kinds := [], alts := [], laidByText := true, laidKinds := [.data], laidTests := true, laidLooks := .later }
def DrawOrdersCardSaid : Prop := Claim7.holds Tryz.pinned (.plain (OpenSpec.ofChange drawOrdersSpec)) drawOrdersCard

/-- THE TIED CARD OF 'gessolaw07.DrawRects'. -/
def drawRectsCard : Claim7 := { stood := { row := drawRectsRow, standIns := [], harness := (true, "fdec31152d07f595ea07138902e75a01f99f5f22b6eaec8a12b05791930e8921"), looks := true }, kinds := [], alts := [], laidByText := true, laidKinds := [.data], laidTests := true, laidLooks := .later }
def DrawRectsCardSaid : Prop := Claim7.holds Tryz.pinned (.plain (OpenSpec.ofChange drawRectsSpec)) drawRectsCard

/-- THE TIED CARD OF 'gessolaw07.DrawSpans'. -/
def drawSpansCard : Claim7 := { stood := { row := drawSpansRow, standIns := [], harness := (true, "fdec31152d07f595ea07138902e75a01f99f5f22b6eaec8a12b05791930e8921"), looks := true }, kinds := [], alts := [], laidByText := true, laidKinds := [.data], laidTests := true, laidLooks := .later }
def DrawSpansCardSaid : Prop := Claim7.holds Tryz.pinned (.plain (OpenSpec.ofChange drawSpansSpec)) drawSpansCard

/-- THE TIED CARD OF 'gessolaw07.DrawTwice'. -/
def drawTwiceCard : Claim7 := { stood := { row := drawTwiceRow, standIns := [], harness := (true, "fdec31152d07f595ea07138902e75a01f99f5f22b6eaec8a12b05791930e8921"), looks := true }, kinds := [], alts := [], laidByText := true, laidKinds := [.data], laidTests := true, laidLooks := .later }
def DrawTwiceCardSaid : Prop := Claim7.holds Tryz.pinned (.plain (OpenSpec.ofChange drawTwiceSpec)) drawTwiceCard

/-- THE SECOND FORM's CARD OF 'gessolaw07.DrawFrames'. -/
def drawFramesUptoCard : Claim7 := { stood := { row := drawFramesUptoRow, standIns := [], harness := (true, "fdec31152d07f595ea07138902e75a01f99f5f22b6eaec8a12b05791930e8921"), looks := true }, kinds := [], alts := [], laidByText := true, laidKinds := [.data], laidTests := true, laidLooks := .later }
def DrawFramesUptoCardSaid : Prop := Claim7.holds Tryz.pinned (.plain (OpenSpec.upto drawFramesSpec)) drawFramesUptoCard

/-- THE SECOND FORM's CARD OF 'gessolaw07.DrawStrokes'. -/
def drawStrokesUptoCard : Claim7 := { stood := { row := drawStrokesUptoRow, standIns := [], harness := (true, "fdec31152d07f595ea07138902e75a01f99f5f22b6eaec8a12b05791930e8921"), looks := true }, kinds := [], alts := [], laidByText := true, laidKinds := [.data], laidTests := true, laidLooks := .later }
def DrawStrokesUptoCardSaid : Prop := Claim7.holds Tryz.pinned (.plain (OpenSpec.upto drawStrokesSpec)) drawStrokesUptoCard

/-- THE SECOND FORM's CARD OF 'gessolaw07.DrawOrders'. -/
def drawOrdersUptoCard : Claim7 := { stood := { row := drawOrdersUptoRow, standIns := [], harness := (true, "fdec31152d07f595ea07138902e75a01f99f5f22b6eaec8a12b05791930e8921"), looks := true }, kinds := [], alts := [], laidByText := true, laidKinds := [.data], laidTests := true, laidLooks := .later }
def DrawOrdersUptoCardSaid : Prop := Claim7.holds Tryz.pinned (.plain (OpenSpec.upto drawOrdersSpec)) drawOrdersUptoCard

/-- THE SECOND FORM's CARD OF 'gessolaw07.DrawRects'. -/
def drawRectsUptoCard : Claim7 := { stood := { row := drawRectsUptoRow, standIns := [], harness := (true, "fdec31152d07f595ea07138902e75a01f99f5f22b6eaec8a12b05791930e8921"), looks := true }, kinds := [], alts := [], laidByText := true, laidKinds := [.data], laidTests := true, laidLooks := .later }
def DrawRectsUptoCardSaid : Prop := Claim7.holds Tryz.pinned (.plain (OpenSpec.upto drawRectsSpec)) drawRectsUptoCard

/-- THE SECOND FORM's CARD OF 'gessolaw07.DrawSpans'. -/
def drawSpansUptoCard : Claim7 := { stood := { row := drawSpansUptoRow, standIns := [], harness := (true, "fdec31152d07f595ea07138902e75a01f99f5f22b6eaec8a12b05791930e8921"), looks := true }, kinds := [], alts := [], laidByText := true, laidKinds := [.data], laidTests := true, laidLooks := .later }
def DrawSpansUptoCardSaid : Prop := Claim7.holds Tryz.pinned (.plain (OpenSpec.upto drawSpansSpec)) drawSpansUptoCard

/-- THE SECOND FORM's CARD OF 'gessolaw07.DrawTwice'. -/
def drawTwiceUptoCard : Claim7 := { stood := { row := drawTwiceUptoRow, standIns := [], harness := (true, "fdec31152d07f595ea07138902e75a01f99f5f22b6eaec8a12b05791930e8921"), looks := true }, kinds := [], alts := [], laidByText := true, laidKinds := [.data], laidTests := true, laidLooks := .later }
def DrawTwiceUptoCardSaid : Prop := Claim7.holds Tryz.pinned (.plain (OpenSpec.upto drawTwiceSpec)) drawTwiceUptoCard
end Rows
end Go.Proofs.YthcdkkmjnglmjaaGreatDoor

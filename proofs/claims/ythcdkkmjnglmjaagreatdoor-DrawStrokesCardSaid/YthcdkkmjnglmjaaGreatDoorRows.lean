/-
  NARROWER THAN 'FOR EVERY INPUT', by the rows' own cells (each row's printed sentence says how): DrawFrames: laid · DrawStrokes: laid · DrawOrders: laid · DrawRects: laid · DrawSpans: laid · DrawTwice: laid.
  DERIVED. THE GIVEN ROWS OF THIS SEAT. 6 by the template 'for every input the law returns true; each argument reads behind the call as it read before'; 0 by the template 'total and deterministic' (their statements: YthcdkkmjnglmjaaGreatDoorTotals.lean).
  GIVEN WITH THE SEED: the statements are not yours to turn. If you find one false, say at which input.
  Laid BY PROGRAM, IN A SANDBOX (cutbox-rows.mjs): the forced cells as the released guide's own fill.sh prints them over the translation f9ef3ddee63c4104… (all of the seat's roots in one cut). By AI agents, Wed Nov 11 2026. No macro, syntax, notation, axiom, sorry.
-/
import Derived.Test.YthcdkkmjnglmjaaGreatDoorChecked
import GoSem.Claim
import GoSem.ClaimJoined
import GoSem.ClaimMapViews
import Derived.JoinedTies
import Derived.KernelRfl
namespace Go.Proofs.YthcdkkmjnglmjaaGreatDoor
/- THE CELL 'sum', in the pinned program and in every row, IS THE sha256 OF THE DUMP (.gsa) THAT YthcdkkmjnglmjaaGreatDoorProg.lean LOADS. Nothing in Lean hashes anything: it is a label: what it is worth is what the hold of that sum in a sandbox is worth. -/
noncomputable def Tryz.pinned : Pinned := { name := "ythcdkkmjnglmjaagreatdoor", sum := "f9ef3ddee63c410479db407247d5bff4cdb5b0754de6ccd6e1ba3c68e3c4d30b", checked := Tryz.checked }
namespace Rows
def none {H : Type} : Left H := { results := [], args := [] }

/- WHAT THE LISTED PACKAGE-LEVEL VARIABLES READ AS WHEN THE CALL BEGINS. Each datum BY PROGRAM (the guide's laid-datum.mjs) off the statement by which the dump's own 'gosem.cut.vars' lays the variable. In a bare row this is a premise. The card (YthcdkkmjnglmjaaGreatDoorCards.lean) ties it to the program's text. -/
def laid_gesso_gessolaw07_red {H : Type} : DataW H := .agg [.lit (.int .u8 255), .lit (.int .u8 0), .lit (.int .u8 0), .lit (.int .u8 255)]

/-- 'gessolaw07.DrawFrames': WHATEVER THE INPUT: true; the input reads as it did. -/
def drawFramesSpec : ChangeSpec := { name := "drawFrames", fn := fun _ => fun
  | [d1, d2, d3] => { results := [.lit (.bool true)], args := [d1, d2, d3] }
  | _ => none }
def drawFramesRow : OpenClaim := { program := "ythcdkkmjnglmjaagreatdoor", sum := "f9ef3ddee63c410479db407247d5bff4cdb5b0754de6ccd6e1ba3c68e3c4d30b", func := "gesso/gessolaw07.DrawFrames", spec := "drawFrames", unfollowed := true, recurses := true, named := ["gesso/gessolaw07.red"], apart := false, laid := [("gesso/gessolaw07.red", laid_gesso_gessolaw07_red)] }
def DrawFramesSaid : Prop := drawFramesRow.holds Tryz.pinned (OpenSpec.ofChange drawFramesSpec)

/-- ITS FALSE NEIGHBOUR: 'it returns false'. Refute it at one input. -/
def drawFramesWrong : ChangeSpec := { name := "drawFrames", fn := fun _ => fun
  | [d1, d2, d3] => { results := [.lit (.bool false)], args := [d1, d2, d3] }
  | _ => none }
def DrawFramesWrongFalsely : Prop := drawFramesRow.holds Tryz.pinned (OpenSpec.ofChange drawFramesWrong)

/-- 'gessolaw07.DrawStrokes': WHATEVER THE INPUT: true; the input reads as it did. -/
def drawStrokesSpec : ChangeSpec := { name := "drawStrokes", fn := fun _ => fun
  | [d1, d2, d3] => { results := [.lit (.bool true)], args := [d1, d2, d3] }
  | _ => none }
def drawStrokesRow : OpenClaim := { program := "ythcdkkmjnglmjaagreatdoor", sum := "f9ef3ddee63c410479db407247d5bff4cdb5b0754de6ccd6e1ba3c68e3c4d30b", func := "gesso/gessolaw07.DrawStrokes", spec := "drawStrokes", unfollowed := true, recurses := true, named := ["gesso/gessolaw07.red"], apart := false, laid := [("gesso/gessolaw07.red", laid_gesso_gessolaw07_red)] }
def DrawStrokesSaid : Prop := drawStrokesRow.holds Tryz.pinned (OpenSpec.ofChange drawStrokesSpec)

/-- ITS FALSE NEIGHBOUR: 'it returns false'. Refute it at one input. -/
def drawStrokesWrong : ChangeSpec := { name := "drawStrokes", fn := fun _ => fun
  | [d1, d2, d3] => { results := [.lit (.bool false)], args := [d1, d2, d3] }
  | _ => none }
def DrawStrokesWrongFalsely : Prop := drawStrokesRow.holds Tryz.pinned (OpenSpec.ofChange drawStrokesWrong)

/-- 'gessolaw07.DrawOrders': WHATEVER THE INPUT: true; the input reads as it did. -/
def drawOrdersSpec : ChangeSpec := { name := "drawOrders", fn := fun _ => fun
  | [d1, d2, d3] => { results := [.lit (.bool true)], args := [d1, d2, d3] }
  | _ => none }
def drawOrdersRow : OpenClaim := { program := "ythcdkkmjnglmjaagreatdoor", sum := "f9ef3ddee63c410479db407247d5bff4cdb5b0754de6ccd6e1ba3c68e3c4d30b", func := "gesso/gessolaw07.DrawOrders", spec := "drawOrders", unfollowed := true, recurses := true, named := ["gesso/gessolaw07.red"], apart := false, laid := [("gesso/gessolaw07.red", laid_gesso_gessolaw07_red)] }
def DrawOrdersSaid : Prop := drawOrdersRow.holds Tryz.pinned (OpenSpec.ofChange drawOrdersSpec)

/-- ITS FALSE NEIGHBOUR: 'it returns false'. Refute it at one input. -/
def drawOrdersWrong : ChangeSpec := { name := "drawOrders", fn := fun _ => fun
  | [d1, d2, d3] => { results := [.lit (.bool false)], args := [d1, d2, d3] }
  | _ => none }
def DrawOrdersWrongFalsely : Prop := drawOrdersRow.holds Tryz.pinned (OpenSpec.ofChange drawOrdersWrong)

/-- 'gessolaw07.DrawRects': WHATEVER THE INPUT: true; the input reads as it did. -/
def drawRectsSpec : ChangeSpec := { name := "drawRects", fn := fun _ => fun
  | [d1, d2, d3] => { results := [.lit (.bool true)], args := [d1, d2, d3] }
  | _ => none }
def drawRectsRow : OpenClaim := { program := "ythcdkkmjnglmjaagreatdoor", sum := "f9ef3ddee63c410479db407247d5bff4cdb5b0754de6ccd6e1ba3c68e3c4d30b", func := "gesso/gessolaw07.DrawRects", spec := "drawRects", unfollowed := true, recurses := true, named := ["gesso/gessolaw07.red"], apart := false, laid := [("gesso/gessolaw07.red", laid_gesso_gessolaw07_red)] }
def DrawRectsSaid : Prop := drawRectsRow.holds Tryz.pinned (OpenSpec.ofChange drawRectsSpec)

/-- ITS FALSE NEIGHBOUR: 'it returns false'. Refute it at one input. -/
def drawRectsWrong : ChangeSpec := { name := "drawRects", fn := fun _ => fun
  | [d1, d2, d3] => { results := [.lit (.bool false)], args := [d1, d2, d3] }
  | _ => none }
def DrawRectsWrongFalsely : Prop := drawRectsRow.holds Tryz.pinned (OpenSpec.ofChange drawRectsWrong)

/-- 'gessolaw07.DrawSpans': WHATEVER THE INPUT: true; the input reads as it did. -/
def drawSpansSpec : ChangeSpec := { name := "drawSpans", fn := fun _ => fun
  | [d1, d2, d3] => { results := [.lit (.bool true)], args := [d1, d2, d3] }
  | _ => none }
def drawSpansRow : OpenClaim := { program := "ythcdkkmjnglmjaagreatdoor", sum := "f9ef3ddee63c410479db407247d5bff4cdb5b0754de6ccd6e1ba3c68e3c4d30b", func := "gesso/gessolaw07.DrawSpans", spec := "drawSpans", unfollowed := true, recurses := true, named := ["gesso/gessolaw07.red"], apart := false, laid := [("gesso/gessolaw07.red", laid_gesso_gessolaw07_red)] }
def DrawSpansSaid : Prop := drawSpansRow.holds Tryz.pinned (OpenSpec.ofChange drawSpansSpec)

/-- ITS FALSE NEIGHBOUR: 'it returns false'. Refute it at one input. -/
def drawSpansWrong : ChangeSpec := { name := "drawSpans", fn := fun _ => fun
  | [d1, d2, d3] => { results := [.lit (.bool false)], args := [d1, d2, d3] }
  | _ => none }
def DrawSpansWrongFalsely : Prop := drawSpansRow.holds Tryz.pinned (OpenSpec.ofChange drawSpansWrong)

/-- 'gessolaw07.DrawTwice': WHATEVER THE INPUT: true; the input reads as it did. -/
def drawTwiceSpec : ChangeSpec := { name := "drawTwice", fn := fun _ => fun
  | [d1, d2, d3] => { results := [.lit (.bool true)], args := [d1, d2, d3] }
  | _ => none }
def drawTwiceRow : OpenClaim := { program := "ythcdkkmjnglmjaagreatdoor", sum := "f9ef3ddee63c410479db407247d5bff4cdb5b0754de6ccd6e1ba3c68e3c4d30b", func := "gesso/gessolaw07.DrawTwice", spec := "drawTwice", unfollowed := true, recurses := true, named := ["gesso/gessolaw07.red"], apart := false, laid := [("gesso/gessolaw07.red", laid_gesso_gessolaw07_red)] }
def DrawTwiceSaid : Prop := drawTwiceRow.holds Tryz.pinned (OpenSpec.ofChange drawTwiceSpec)

/-- ITS FALSE NEIGHBOUR: 'it returns false'. Refute it at one input. -/
def drawTwiceWrong : ChangeSpec := { name := "drawTwice", fn := fun _ => fun
  | [d1, d2, d3] => { results := [.lit (.bool false)], args := [d1, d2, d3] }
  | _ => none }
def DrawTwiceWrongFalsely : Prop := drawTwiceRow.holds Tryz.pinned (OpenSpec.ofChange drawTwiceWrong)

/- THE SECOND FORM. 'bulk': how many values and letters a reading holds, each counted each time it is reached (what is shared counts as often as it is met; a slice's spare places count too). A statement '..UptoSaid' is the law's where the arguments, and the package variables that the reading takes, are together of bulk at most 1048576: NARROWER than '..Said'. Prove '..Said' where nothing that the law and all that it calls make is longer than what came in: it says more and counts as full. Else prove '..UptoSaid'. A law counts once. -/
mutual
def uptoBulk {H : Type} : DataW H → Nat
  | .lit (.string bytes) => bytes.length + 1
  | .lit _ => 1
  | .nil => 1
  | .ptr d => uptoBulk d + 1
  | .slice elems spare => uptoBulkAll elems + uptoBulkAll spare + 1
  | .agg parts => uptoBulkAll parts + 1
  | .iface _ d => uptoBulk d + 1
  | .map entries => uptoBulkEntries entries + 1
  | .held _ => 1
def uptoBulkAll {H : Type} : List (DataW H) → Nat
  | [] => 0
  | d :: r => uptoBulk d + uptoBulkAll r
def uptoBulkEntries {H : Type} : List (Lit × DataW H) → Nat
  | [] => 0
  | x :: r => uptoBulkEntry x + uptoBulkEntries r
def uptoBulkEntry {H : Type} : Lit × DataW H → Nat
  | (.string bytes, d) => bytes.length + uptoBulk d + 1
  | (_, d) => uptoBulk d + 1
 end
def uptoSmall : (H : Type) → List (DataW H) → Bool := fun _ ds => decide (uptoBulkAll ds ≤ 1048576)
def OpenSpec.upto (s : _root_.Go.ChangeSpec) : _root_.Go.OpenSpec := { _root_.Go.OpenSpec.ofChange s with cond := some uptoSmall }

/-- 'gessolaw07.DrawFrames', WHERE WHAT IT READS IS OF BULK AT MOST 1048576: true; the input reads as it did. -/
def drawFramesUptoRow : OpenClaim := { program := "ythcdkkmjnglmjaagreatdoor", sum := "f9ef3ddee63c410479db407247d5bff4cdb5b0754de6ccd6e1ba3c68e3c4d30b", func := "gesso/gessolaw07.DrawFrames", spec := "drawFrames", unfollowed := true, recurses := true, named := ["gesso/gessolaw07.red"], apart := false, laid := [("gesso/gessolaw07.red", laid_gesso_gessolaw07_red)], narrowed := true }
def DrawFramesUptoSaid : Prop := drawFramesUptoRow.holds Tryz.pinned (OpenSpec.upto drawFramesSpec)

/-- 'gessolaw07.DrawStrokes', WHERE WHAT IT READS IS OF BULK AT MOST 1048576: true; the input reads as it did. -/
def drawStrokesUptoRow : OpenClaim := { program := "ythcdkkmjnglmjaagreatdoor", sum := "f9ef3ddee63c410479db407247d5bff4cdb5b0754de6ccd6e1ba3c68e3c4d30b", func := "gesso/gessolaw07.DrawStrokes", spec := "drawStrokes", unfollowed := true, recurses := true, named := ["gesso/gessolaw07.red"], apart := false, laid := [("gesso/gessolaw07.red", laid_gesso_gessolaw07_red)], narrowed := true }
def DrawStrokesUptoSaid : Prop := drawStrokesUptoRow.holds Tryz.pinned (OpenSpec.upto drawStrokesSpec)

/-- 'gessolaw07.DrawOrders', WHERE WHAT IT READS IS OF BULK AT MOST 1048576: true; the input reads as it did. -/
def drawOrdersUptoRow : OpenClaim := { program := "ythcdkkmjnglmjaagreatdoor", sum := "f9ef3ddee63c410479db407247d5bff4cdb5b0754de6ccd6e1ba3c68e3c4d30b", func := "gesso/gessolaw07.DrawOrders", spec := "drawOrders", unfollowed := true, recurses := true, named := ["gesso/gessolaw07.red"], apart := false, laid := [("gesso/gessolaw07.red", laid_gesso_gessolaw07_red)], narrowed := true }
def DrawOrdersUptoSaid : Prop := drawOrdersUptoRow.holds Tryz.pinned (OpenSpec.upto drawOrdersSpec)

/-- 'gessolaw07.DrawRects', WHERE WHAT IT READS IS OF BULK AT MOST 1048576: true; the input reads as it did. -/
def drawRectsUptoRow : OpenClaim := { program := "ythcdkkmjnglmjaagreatdoor", sum := "f9ef3ddee63c410479db407247d5bff4cdb5b0754de6ccd6e1ba3c68e3c4d30b", func := "gesso/gessolaw07.DrawRects", spec := "drawRects", unfollowed := true, recurses := true, named := ["gesso/gessolaw07.red"], apart := false, laid := [("gesso/gessolaw07.red", laid_gesso_gessolaw07_red)], narrowed := true }
def DrawRectsUptoSaid : Prop := drawRectsUptoRow.holds Tryz.pinned (OpenSpec.upto drawRectsSpec)

/-- 'gessolaw07.DrawSpans', WHERE WHAT IT READS IS OF BULK AT MOST 1048576: true; the input reads as it did. -/
def drawSpansUptoRow : OpenClaim := { program := "ythcdkkmjnglmjaagreatdoor", sum := "f9ef3ddee63c410479db407247d5bff4cdb5b0754de6ccd6e1ba3c68e3c4d30b", func := "gesso/gessolaw07.DrawSpans", spec := "drawSpans", unfollowed := true, recurses := true, named := ["gesso/gessolaw07.red"], apart := false, laid := [("gesso/gessolaw07.red", laid_gesso_gessolaw07_red)], narrowed := true }
def DrawSpansUptoSaid : Prop := drawSpansUptoRow.holds Tryz.pinned (OpenSpec.upto drawSpansSpec)

/-- 'gessolaw07.DrawTwice', WHERE WHAT IT READS IS OF BULK AT MOST 1048576: true; the input reads as it did. -/
def drawTwiceUptoRow : OpenClaim := { program := "ythcdkkmjnglmjaagreatdoor", sum := "f9ef3ddee63c410479db407247d5bff4cdb5b0754de6ccd6e1ba3c68e3c4d30b", func := "gesso/gessolaw07.DrawTwice", spec := "drawTwice", unfollowed := true, recurses := true, named := ["gesso/gessolaw07.red"], apart := false, laid := [("gesso/gessolaw07.red", laid_gesso_gessolaw07_red)], narrowed := true }
def DrawTwiceUptoSaid : Prop := drawTwiceUptoRow.holds Tryz.pinned (OpenSpec.upto drawTwiceSpec)

end Rows
end Go.Proofs.YthcdkkmjnglmjaaGreatDoor

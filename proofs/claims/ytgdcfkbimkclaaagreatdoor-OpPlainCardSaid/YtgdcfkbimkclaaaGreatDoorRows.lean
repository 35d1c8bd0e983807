/-
  NARROWER THAN 'FOR EVERY INPUT', by the rows' own cells (each row's printed sentence says how): OpMay: laid · OpPlain: laid · OpParts: laid · OpPaints: laid · OpReaches: laid.
  DERIVED. THE GIVEN ROWS OF THIS SEAT. 5 by the template 'for every input the law returns true; each argument reads behind the call as it read before'; 0 by the template 'total and deterministic' (their statements: YtgdcfkbimkclaaaGreatDoorTotals.lean).
  GIVEN WITH THE SEED: the statements are not yours to turn. If you find one false, say at which input.
  Laid BY PROGRAM, IN A SANDBOX (cutbox-rows.mjs): the forced cells as the released guide's own fill.sh prints them over the translation 00dc3ebfea2ecd6f… (all of the seat's roots in one cut). By AI agents, Wed Nov 11 2026. No macro, syntax, notation, axiom, sorry.
-/
import Derived.Test.YtgdcfkbimkclaaaGreatDoorChecked
import GoSem.Claim
import GoSem.ClaimJoined
import GoSem.ClaimMapViews
import Derived.JoinedTies
import Derived.KernelRfl
namespace Go.Proofs.YtgdcfkbimkclaaaGreatDoor
/- THE CELL 'sum', in the pinned program and in every row, IS THE sha256 OF THE DUMP (.gsa) THAT YtgdcfkbimkclaaaGreatDoorProg.lean LOADS. Nothing in Lean hashes anything: it is a label: what it is worth is what the hold of that sum in a sandbox is worth. -/
noncomputable def Tryz.pinned : Pinned := { name := "ytgdcfkbimkclaaagreatdoor", sum := "00dc3ebfea2ecd6f781184b8ae39c388c5243d36ad277402f1fd1d99b69dfa2a", checked := Tryz.checked }
namespace Rows
def none {H : Type} : Left H := { results := [], args := [] }

/- WHAT THE LISTED PACKAGE-LEVEL VARIABLES READ AS WHEN THE CALL BEGINS. Each datum BY PROGRAM (the guide's laid-datum.mjs) off the statement by which the dump's own 'gosem.cut.vars' lays the variable. In a bare row this is a premise. The card (YtgdcfkbimkclaaaGreatDoorCards.lean) ties it to the program's text. -/
def laid_gesso_gessolaw12_red {H : Type} : DataW H := .agg [.lit (.int .u8 255), .lit (.int .u8 0), .lit (.int .u8 0), .lit (.int .u8 255)]

/-- 'gessolaw12.OpMay': WHATEVER THE INPUT: true; the input reads as it did. -/
def opMaySpec : ChangeSpec := { name := "opMay", fn := fun _ => fun
  | [d1, d2, d3] => { results := [.lit (.bool true)], args := [d1, d2, d3] }
  | _ => none }
def opMayRow : OpenClaim := { program := "ytgdcfkbimkclaaagreatdoor", sum := "00dc3ebfea2ecd6f781184b8ae39c388c5243d36ad277402f1fd1d99b69dfa2a", func := "gesso/gessolaw12.OpMay", spec := "opMay", inPlace := ["internal/abi.NoEscape", "internal/bytealg.MakeNoZero"], unfollowed := true, recurses := true, named := ["gesso/gessolaw12.red"], apart := false, laid := [("gesso/gessolaw12.red", laid_gesso_gessolaw12_red)] }
def OpMaySaid : Prop := opMayRow.holds Tryz.pinned (OpenSpec.ofChange opMaySpec)

/-- ITS FALSE NEIGHBOUR: 'it returns false'. Refute it at one input. -/
def opMayWrong : ChangeSpec := { name := "opMay", fn := fun _ => fun
  | [d1, d2, d3] => { results := [.lit (.bool false)], args := [d1, d2, d3] }
  | _ => none }
def OpMayWrongFalsely : Prop := opMayRow.holds Tryz.pinned (OpenSpec.ofChange opMayWrong)

/-- 'gessolaw12.OpPlain': WHATEVER THE INPUT: true; the input reads as it did. -/
def opPlainSpec : ChangeSpec := { name := "opPlain", fn := fun _ => fun
  | [d] => { results := [.lit (.bool true)], args := [d] }
  | _ => none }
def opPlainRow : OpenClaim := { program := "ytgdcfkbimkclaaagreatdoor", sum := "00dc3ebfea2ecd6f781184b8ae39c388c5243d36ad277402f1fd1d99b69dfa2a", func := "gesso/gessolaw12.OpPlain", spec := "opPlain", inPlace := ["internal/abi.NoEscape", "internal/bytealg.MakeNoZero"], unfollowed := true, recurses := true, named := ["gesso/gessolaw12.red"], apart := false, laid := [("gesso/gessolaw12.red", laid_gesso_gessolaw12_red)] }
def OpPlainSaid : Prop := opPlainRow.holds Tryz.pinned (OpenSpec.ofChange opPlainSpec)

/-- ITS FALSE NEIGHBOUR: 'it returns false'. Refute it at one input. -/
def opPlainWrong : ChangeSpec := { name := "opPlain", fn := fun _ => fun
  | [d] => { results := [.lit (.bool false)], args := [d] }
  | _ => none }
def OpPlainWrongFalsely : Prop := opPlainRow.holds Tryz.pinned (OpenSpec.ofChange opPlainWrong)

/-- 'gessolaw12.OpParts': WHATEVER THE INPUT: true; the input reads as it did. -/
def opPartsSpec : ChangeSpec := { name := "opParts", fn := fun _ => fun
  | [d1, d2, d3] => { results := [.lit (.bool true)], args := [d1, d2, d3] }
  | _ => none }
def opPartsRow : OpenClaim := { program := "ytgdcfkbimkclaaagreatdoor", sum := "00dc3ebfea2ecd6f781184b8ae39c388c5243d36ad277402f1fd1d99b69dfa2a", func := "gesso/gessolaw12.OpParts", spec := "opParts", inPlace := ["internal/abi.NoEscape", "internal/bytealg.MakeNoZero"], unfollowed := true, recurses := true, named := ["gesso/gessolaw12.red"], apart := false, laid := [("gesso/gessolaw12.red", laid_gesso_gessolaw12_red)] }
def OpPartsSaid : Prop := opPartsRow.holds Tryz.pinned (OpenSpec.ofChange opPartsSpec)

/-- ITS FALSE NEIGHBOUR: 'it returns false'. Refute it at one input. -/
def opPartsWrong : ChangeSpec := { name := "opParts", fn := fun _ => fun
  | [d1, d2, d3] => { results := [.lit (.bool false)], args := [d1, d2, d3] }
  | _ => none }
def OpPartsWrongFalsely : Prop := opPartsRow.holds Tryz.pinned (OpenSpec.ofChange opPartsWrong)

/-- 'gessolaw12.OpPaints': WHATEVER THE INPUT: true; the input reads as it did. -/
def opPaintsSpec : ChangeSpec := { name := "opPaints", fn := fun _ => fun
  | [d1, d2] => { results := [.lit (.bool true)], args := [d1, d2] }
  | _ => none }
def opPaintsRow : OpenClaim := { program := "ytgdcfkbimkclaaagreatdoor", sum := "00dc3ebfea2ecd6f781184b8ae39c388c5243d36ad277402f1fd1d99b69dfa2a", func := "gesso/gessolaw12.OpPaints", spec := "opPaints", inPlace := ["internal/abi.NoEscape", "internal/bytealg.MakeNoZero"], unfollowed := true, recurses := true, named := ["gesso/gessolaw12.red"], apart := false, laid := [("gesso/gessolaw12.red", laid_gesso_gessolaw12_red)] }
def OpPaintsSaid : Prop := opPaintsRow.holds Tryz.pinned (OpenSpec.ofChange opPaintsSpec)

/-- ITS FALSE NEIGHBOUR: 'it returns false'. Refute it at one input. -/
def opPaintsWrong : ChangeSpec := { name := "opPaints", fn := fun _ => fun
  | [d1, d2] => { results := [.lit (.bool false)], args := [d1, d2] }
  | _ => none }
def OpPaintsWrongFalsely : Prop := opPaintsRow.holds Tryz.pinned (OpenSpec.ofChange opPaintsWrong)

/-- 'gessolaw12.OpReaches': WHATEVER THE INPUT: true; the input reads as it did. -/
def opReachesSpec : ChangeSpec := { name := "opReaches", fn := fun _ => fun
  | [d1, d2] => { results := [.lit (.bool true)], args := [d1, d2] }
  | _ => none }
def opReachesRow : OpenClaim := { program := "ytgdcfkbimkclaaagreatdoor", sum := "00dc3ebfea2ecd6f781184b8ae39c388c5243d36ad277402f1fd1d99b69dfa2a", func := "gesso/gessolaw12.OpReaches", spec := "opReaches", inPlace := ["internal/abi.NoEscape", "internal/bytealg.MakeNoZero"], unfollowed := true, recurses := true, named := ["gesso/gessolaw12.red"], apart := false, laid := [("gesso/gessolaw12.red", laid_gesso_gessolaw12_red)] }
def OpReachesSaid : Prop := opReachesRow.holds Tryz.pinned (OpenSpec.ofChange opReachesSpec)

/-- ITS FALSE NEIGHBOUR: 'it returns false'. Refute it at one input. -/
def opReachesWrong : ChangeSpec := { name := "opReaches", fn := fun _ => fun
  | [d1, d2] => { results := [.lit (.bool false)], args := [d1, d2] }
  | _ => none }
def OpReachesWrongFalsely : Prop := opReachesRow.holds Tryz.pinned (OpenSpec.ofChange opReachesWrong)

/- THE SECOND FORM. 'bulk': how many values and letters a reading holds, each counted each time it is reached (what is shared counts as often as it is met; a slice's spare places count too). A statement '..UptoSaid' is the law's where the arguments, and the package variables that the reading takes, are together of bulk at most 1048576: NARROWER than '..Said'. Prove '..Said' where nothing that the law and all that it calls make is longer than what came in: it says more and counts as full. Else prove '..UptoSaid'. A law counts once. -/
mutual
def uptoBulk {H : Type} : DataW H → Nat
  | .lit (.string bytes) => bytes.length + 1
  | .lit _ => 1
  | .nil => 1
  | .ptr d => uptoBulk d + 1
  | .slice elems spare => uptoBulkAll elems + uptoBulkAll spare + 1
  | .agg parts => uptoBulkAll parts + 1
  | .iface _ d => uptoBulk d + 1
  | .map entries => uptoBulkEntries entries + 1
  | .held _ => 1
def uptoBulkAll {H : Type} : List (DataW H) → Nat
  | [] => 0
  | d :: r => uptoBulk d + uptoBulkAll r
def uptoBulkEntries {H : Type} : List (Lit × DataW H) → Nat
  | [] => 0
  | x :: r => uptoBulkEntry x + uptoBulkEntries r
def uptoBulkEntry {H : Type} : Lit × DataW H → Nat
  | (.string bytes, d) => bytes.length + uptoBulk d + 1
  | (_, d) => uptoBulk d + 1
 end
def uptoSmall : (H : Type) → List (DataW H) → Bool := fun _ ds => decide (uptoBulkAll ds ≤ 1048576)
def OpenSpec.upto (s : _root_.Go.ChangeSpec) : _root_.Go.OpenSpec := { _root_.Go.OpenSpec.ofChange s with cond := some uptoSmall }

/-- 'gessolaw12.OpMay', WHERE WHAT IT READS IS OF BULK AT MOST 1048576: true; the input reads as it did. -/
def opMayUptoRow : OpenClaim := { program := "ytgdcfkbimkclaaagreatdoor", sum := "00dc3ebfea2ecd6f781184b8ae39c388c5243d36ad277402f1fd1d99b69dfa2a", func := "gesso/gessolaw12.OpMay", spec := "opMay", inPlace := ["internal/abi.NoEscape", "internal/bytealg.MakeNoZero"], unfollowed := true, recurses := true, named := ["gesso/gessolaw12.red"], apart := false, laid := [("gesso/gessolaw12.red", laid_gesso_gessolaw12_red)], narrowed := true }
def OpMayUptoSaid : Prop := opMayUptoRow.holds Tryz.pinned (OpenSpec.upto opMaySpec)

/-- 'gessolaw12.OpPlain', WHERE WHAT IT READS IS OF BULK AT MOST 1048576: true; the input reads as it did. -/
def opPlainUptoRow : OpenClaim := { program := "ytgdcfkbimkclaaagreatdoor", sum := "00dc3ebfea2ecd6f781184b8ae39c388c5243d36ad277402f1fd1d99b69dfa2a", func := "gesso/gessolaw12.OpPlain", spec := "opPlain", inPlace := ["internal/abi.NoEscape", "internal/bytealg.MakeNoZero"], unfollowed := true, recurses := true, named := ["gesso/gessolaw12.red"], apart := false, laid := [("gesso/gessolaw12.red", laid_gesso_gessolaw12_red)], narrowed := true }
def OpPlainUptoSaid : Prop := opPlainUptoRow.holds Tryz.pinned (OpenSpec.upto opPlainSpec)

/-- 'gessolaw12.OpParts', WHERE WHAT IT READS IS OF BULK AT MOST 1048576: true; the input reads as it did. -/
def opPartsUptoRow : OpenClaim := { program := "ytgdcfkbimkclaaagreatdoor", sum := "00dc3ebfea2ecd6f781184b8ae39c388c5243d36ad277402f1fd1d99b69dfa2a", func := "gesso/gessolaw12.OpParts", spec := "opParts", inPlace := ["internal/abi.NoEscape", "internal/bytealg.MakeNoZero"], unfollowed := true, recurses := true, named := ["gesso/gessolaw12.red"], apart := false, laid := [("gesso/gessolaw12.red", laid_gesso_gessolaw12_red)], narrowed := true }
def OpPartsUptoSaid : Prop := opPartsUptoRow.holds Tryz.pinned (OpenSpec.upto opPartsSpec)

/-- 'gessolaw12.OpPaints', WHERE WHAT IT READS IS OF BULK AT MOST 1048576: true; the input reads as it did. -/
def opPaintsUptoRow : OpenClaim := { program := "ytgdcfkbimkclaaagreatdoor", sum := "00dc3ebfea2ecd6f781184b8ae39c388c5243d36ad277402f1fd1d99b69dfa2a", func := "gesso/gessolaw12.OpPaints", spec := "opPaints", inPlace := ["internal/abi.NoEscape", "internal/bytealg.MakeNoZero"], unfollowed := true, recurses := true, named := ["gesso/gessolaw12.red"], apart := false, laid := [("gesso/gessolaw12.red", laid_gesso_gessolaw12_red)], narrowed := true }
def OpPaintsUptoSaid : Prop := opPaintsUptoRow.holds Tryz.pinned (OpenSpec.upto opPaintsSpec)

/-- 'gessolaw12.OpReaches', WHERE WHAT IT READS IS OF BULK AT MOST 1048576: true; the input reads as it did. -/
def opReachesUptoRow : OpenClaim := { program := "ytgdcfkbimkclaaagreatdoor", sum := "00dc3ebfea2ecd6f781184b8ae39c388c5243d36ad277402f1fd1d99b69dfa2a", func := "gesso/gessolaw12.OpReaches", spec := "opReaches", inPlace := ["internal/abi.NoEscape", "internal/bytealg.MakeNoZero"], unfollowed := true, recurses := true, named := ["gesso/gessolaw12.red"], apart := false, laid := [("gesso/gessolaw12.red", laid_gesso_gessolaw12_red)], narrowed := true }
def OpReachesUptoSaid : Prop := opReachesUptoRow.holds Tryz.pinned (OpenSpec.upto opReachesSpec)

end Rows
end Go.Proofs.YtgdcfkbimkclaaaGreatDoor

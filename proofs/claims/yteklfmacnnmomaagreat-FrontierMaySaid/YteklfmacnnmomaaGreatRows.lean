/-
  No cell of these rows narrows 'for every input' (looked for: loops, veiled, ifaces, maps, wideKeys, modest, calm, conditions, laid).
  DERIVED. THE GIVEN ROWS OF THIS SEAT. 5 by the template 'for every input the law returns true; each argument reads behind the call as it read before'; 0 by the template 'total and deterministic' (their statements: YteklfmacnnmomaaGreatTotals.lean).
  GIVEN WITH THE SEED: the statements are not yours to turn. If you find one false, say at which input.
  Laid BY PROGRAM, IN A SANDBOX (cutbox-rows.mjs): the forced cells as the released guide's own fill.sh prints them over the translation 978e157f4a0d0d73… (all of the seat's roots in one cut). By AI agents, Wed Nov 11 2026. No macro, syntax, notation, axiom, sorry.
-/
import Derived.Test.YteklfmacnnmomaaGreatChecked
import GoSem.Claim
import GoSem.ClaimJoined
import GoSem.ClaimMapViews
import Derived.JoinedTies
import Derived.KernelRfl
namespace Go.Proofs.YteklfmacnnmomaaGreat
/- THE CELL 'sum', in the pinned program and in every row, IS THE sha256 OF THE DUMP (.gsa) THAT YteklfmacnnmomaaGreatProg.lean LOADS. Nothing in Lean hashes anything: it is a label: what it is worth is what the hold of that sum in a sandbox is worth. -/
noncomputable def Tryz.pinned : Pinned := { name := "yteklfmacnnmomaagreat", sum := "978e157f4a0d0d73ec74d60b7e755a8a4b79226835751cd79e5a06e2113b3fa5", checked := Tryz.checked }
namespace Rows
def none {H : Type} : Left H := { results := [], args := [] }

/-- 'gessolaw18.FrontierHears': WHATEVER THE INPUT: true; the input reads as it did. -/
def frontierHearsSpec : ChangeSpec := { name := "frontierHears", fn := fun _ => fun
  | [d1, d2, d3] => { results := [.lit (.bool true)], args := [d1, d2, d3] }
  | _ => none }
def frontierHearsRow : OpenClaim := { program := "yteklfmacnnmomaagreat", sum := "978e157f4a0d0d73ec74d60b7e755a8a4b79226835751cd79e5a06e2113b3fa5", func := "gesso/gessolaw18.FrontierHears", spec := "frontierHears", unfollowed := true, recurses := true, apart := false }
def FrontierHearsSaid : Prop := frontierHearsRow.holds Tryz.pinned (OpenSpec.ofChange frontierHearsSpec)

/-- ITS FALSE NEIGHBOUR: 'it returns false'. Refute it at one input. -/
def frontierHearsWrong : ChangeSpec := { name := "frontierHears", fn := fun _ => fun
  | [d1, d2, d3] => { results := [.lit (.bool false)], args := [d1, d2, d3] }
  | _ => none }
def FrontierHearsWrongFalsely : Prop := frontierHearsRow.holds Tryz.pinned (OpenSpec.ofChange frontierHearsWrong)

/-- 'gessolaw18.FrontierProposes': WHATEVER THE INPUT: true; the input reads as it did. -/
def frontierProposesSpec : ChangeSpec := { name := "frontierProposes", fn := fun _ => fun
  | [d1, d2, d3] => { results := [.lit (.bool true)], args := [d1, d2, d3] }
  | _ => none }
def frontierProposesRow : OpenClaim := { program := "yteklfmacnnmomaagreat", sum := "978e157f4a0d0d73ec74d60b7e755a8a4b79226835751cd79e5a06e2113b3fa5", func := "gesso/gessolaw18.FrontierProposes", spec := "frontierProposes", unfollowed := true, recurses := true, apart := false }
def FrontierProposesSaid : Prop := frontierProposesRow.holds Tryz.pinned (OpenSpec.ofChange frontierProposesSpec)

/-- ITS FALSE NEIGHBOUR: 'it returns false'. Refute it at one input. -/
def frontierProposesWrong : ChangeSpec := { name := "frontierProposes", fn := fun _ => fun
  | [d1, d2, d3] => { results := [.lit (.bool false)], args := [d1, d2, d3] }
  | _ => none }
def FrontierProposesWrongFalsely : Prop := frontierProposesRow.holds Tryz.pinned (OpenSpec.ofChange frontierProposesWrong)

/-- 'gessolaw18.FrontierTwice': WHATEVER THE INPUT: true; the input reads as it did. -/
def frontierTwiceSpec : ChangeSpec := { name := "frontierTwice", fn := fun _ => fun
  | [d1, d2, d3] => { results := [.lit (.bool true)], args := [d1, d2, d3] }
  | _ => none }
def frontierTwiceRow : OpenClaim := { program := "yteklfmacnnmomaagreat", sum := "978e157f4a0d0d73ec74d60b7e755a8a4b79226835751cd79e5a06e2113b3fa5", func := "gesso/gessolaw18.FrontierTwice", spec := "frontierTwice", unfollowed := true, recurses := true, apart := false }
def FrontierTwiceSaid : Prop := frontierTwiceRow.holds Tryz.pinned (OpenSpec.ofChange frontierTwiceSpec)

/-- ITS FALSE NEIGHBOUR: 'it returns false'. Refute it at one input. -/
def frontierTwiceWrong : ChangeSpec := { name := "frontierTwice", fn := fun _ => fun
  | [d1, d2, d3] => { results := [.lit (.bool false)], args := [d1, d2, d3] }
  | _ => none }
def FrontierTwiceWrongFalsely : Prop := frontierTwiceRow.holds Tryz.pinned (OpenSpec.ofChange frontierTwiceWrong)

/-- 'gessolaw18.FrontierMay': WHATEVER THE INPUT: true; the input reads as it did. -/
def frontierMaySpec : ChangeSpec := { name := "frontierMay", fn := fun _ => fun
  | [d1, d2, d3] => { results := [.lit (.bool true)], args := [d1, d2, d3] }
  | _ => none }
def frontierMayRow : OpenClaim := { program := "yteklfmacnnmomaagreat", sum := "978e157f4a0d0d73ec74d60b7e755a8a4b79226835751cd79e5a06e2113b3fa5", func := "gesso/gessolaw18.FrontierMay", spec := "frontierMay", unfollowed := true, recurses := true, apart := false }
def FrontierMaySaid : Prop := frontierMayRow.holds Tryz.pinned (OpenSpec.ofChange frontierMaySpec)

/-- ITS FALSE NEIGHBOUR: 'it returns false'. Refute it at one input. -/
def frontierMayWrong : ChangeSpec := { name := "frontierMay", fn := fun _ => fun
  | [d1, d2, d3] => { results := [.lit (.bool false)], args := [d1, d2, d3] }
  | _ => none }
def FrontierMayWrongFalsely : Prop := frontierMayRow.holds Tryz.pinned (OpenSpec.ofChange frontierMayWrong)

/-- 'gessolaw18.FrontierRises': WHATEVER THE INPUT: true; the input reads as it did. -/
def frontierRisesSpec : ChangeSpec := { name := "frontierRises", fn := fun _ => fun
  | [d1, d2, d3] => { results := [.lit (.bool true)], args := [d1, d2, d3] }
  | _ => none }
def frontierRisesRow : OpenClaim := { program := "yteklfmacnnmomaagreat", sum := "978e157f4a0d0d73ec74d60b7e755a8a4b79226835751cd79e5a06e2113b3fa5", func := "gesso/gessolaw18.FrontierRises", spec := "frontierRises", unfollowed := true, recurses := true, apart := false }
def FrontierRisesSaid : Prop := frontierRisesRow.holds Tryz.pinned (OpenSpec.ofChange frontierRisesSpec)

/-- ITS FALSE NEIGHBOUR: 'it returns false'. Refute it at one input. -/
def frontierRisesWrong : ChangeSpec := { name := "frontierRises", fn := fun _ => fun
  | [d1, d2, d3] => { results := [.lit (.bool false)], args := [d1, d2, d3] }
  | _ => none }
def FrontierRisesWrongFalsely : Prop := frontierRisesRow.holds Tryz.pinned (OpenSpec.ofChange frontierRisesWrong)

/- THE SECOND FORM. 'bulk': how many values and letters a reading holds, each counted each time it is reached (what is shared counts as often as it is met; a slice's spare places count too). A statement '..UptoSaid' is the law's where the arguments, and the package variables that the reading takes, are together of bulk at most 1048576: NARROWER than '..Said'. Prove '..Said' where nothing that the law and all that it calls make is longer than what came in: it says more and counts as full. Else prove '..UptoSaid'. A law counts once. -/
mutual
def uptoBulk {H : Type} : DataW H → Nat
  | .lit (.string bytes) => bytes.length + 1
  | .lit _ => 1
  | .nil => 1
  | .ptr d => uptoBulk d + 1
  | .slice elems spare => uptoBulkAll elems + uptoBulkAll spare + 1
  | .agg parts => uptoBulkAll parts + 1
  | .iface _ d => uptoBulk d + 1
  | .map entries => uptoBulkEntries entries + 1
  | .held _ => 1
def uptoBulkAll {H : Type} : List (DataW H) → Nat
  | [] => 0
  | d :: r => uptoBulk d + uptoBulkAll r
def uptoBulkEntries {H : Type} : List (Lit × DataW H) → Nat
  | [] => 0
  | x :: r => uptoBulkEntry x + uptoBulkEntries r
def uptoBulkEntry {H : Type} : Lit × DataW H → Nat
  | (.string bytes, d) => bytes.length + uptoBulk d + 1
  | (_, d) => uptoBulk d + 1
 end
def uptoSmall : (H : Type) → List (DataW H) → Bool := fun _ ds => decide (uptoBulkAll ds ≤ 1048576)
def OpenSpec.upto (s : _root_.Go.ChangeSpec) : _root_.Go.OpenSpec := { _root_.Go.OpenSpec.ofChange s with cond := some uptoSmall }

/-- 'gessolaw18.FrontierHears', WHERE WHAT IT READS IS OF BULK AT MOST 1048576: true; the input reads as it did. -/
def frontierHearsUptoRow : OpenClaim := { program := "yteklfmacnnmomaagreat", sum := "978e157f4a0d0d73ec74d60b7e755a8a4b79226835751cd79e5a06e2113b3fa5", func := "gesso/gessolaw18.FrontierHears", spec := "frontierHears", unfollowed := true, recurses := true, apart := false, narrowed := true }
def FrontierHearsUptoSaid : Prop := frontierHearsUptoRow.holds Tryz.pinned (OpenSpec.upto frontierHearsSpec)

/-- 'gessolaw18.FrontierProposes', WHERE WHAT IT READS IS OF BULK AT MOST 1048576: true; the input reads as it did. -/
def frontierProposesUptoRow : OpenClaim := { program := "yteklfmacnnmomaagreat", sum := "978e157f4a0d0d73ec74d60b7e755a8a4b79226835751cd79e5a06e2113b3fa5", func := "gesso/gessolaw18.FrontierProposes", spec := "frontierProposes", unfollowed := true, recurses := true, apart := false, narrowed := true }
def FrontierProposesUptoSaid : Prop := frontierProposesUptoRow.holds Tryz.pinned (OpenSpec.upto frontierProposesSpec)

/-- 'gessolaw18.FrontierTwice', WHERE WHAT IT READS IS OF BULK AT MOST 1048576: true; the input reads as it did. -/
def frontierTwiceUptoRow : OpenClaim := { program := "yteklfmacnnmomaagreat", sum := "978e157f4a0d0d73ec74d60b7e755a8a4b79226835751cd79e5a06e2113b3fa5", func := "gesso/gessolaw18.FrontierTwice", spec := "frontierTwice", unfollowed := true, recurses := true, apart := false, narrowed := true }
def FrontierTwiceUptoSaid : Prop := frontierTwiceUptoRow.holds Tryz.pinned (OpenSpec.upto frontierTwiceSpec)

/-- 'gessolaw18.FrontierMay', WHERE WHAT IT READS IS OF BULK AT MOST 1048576: true; the input reads as it did. -/
def frontierMayUptoRow : OpenClaim := { program := "yteklfmacnnmomaagreat", sum := "978e157f4a0d0d73ec74d60b7e755a8a4b79226835751cd79e5a06e2113b3fa5", func := "gesso/gessolaw18.FrontierMay", spec := "frontierMay", unfollowed := true, recurses := true, apart := false, narrowed := true }
def FrontierMayUptoSaid : Prop := frontierMayUptoRow.holds Tryz.pinned (OpenSpec.upto frontierMaySpec)

/-- 'gessolaw18.FrontierRises', WHERE WHAT IT READS IS OF BULK AT MOST 1048576: true; the input reads as it did. -/
def frontierRisesUptoRow : OpenClaim := { program := "yteklfmacnnmomaagreat", sum := "978e157f4a0d0d73ec74d60b7e755a8a4b79226835751cd79e5a06e2113b3fa5", func := "gesso/gessolaw18.FrontierRises", spec := "frontierRises", unfollowed := true, recurses := true, apart := false, narrowed := true }
def FrontierRisesUptoSaid : Prop := frontierRisesUptoRow.holds Tryz.pinned (OpenSpec.upto frontierRisesSpec)

end Rows
end Go.Proofs.YteklfmacnnmomaaGreat

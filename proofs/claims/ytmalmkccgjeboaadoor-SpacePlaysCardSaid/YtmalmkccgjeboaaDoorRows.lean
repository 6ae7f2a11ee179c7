/-
  NARROWER THAN 'FOR EVERY INPUT', by the rows' own cells (each row's printed sentence says how): SpaceHolds: laid · SpacePeak: laid · SpaceLoses: laid · SpaceCopies: laid · SpaceRefuses: laid · SpaceClones: laid · SpacePlays: laid · SpaceNone: laid · SpaceStates: laid.
  DERIVED. THE GIVEN ROWS OF THIS SEAT. 9 by the template 'for every input the law returns true; each argument reads behind the call as it read before'; 0 by the template 'total and deterministic' (their statements: YtmalmkccgjeboaaDoorTotals.lean).
  GIVEN WITH THE SEED: the statements are not yours to turn. If you find one false, say at which input.
  Laid BY PROGRAM, IN A SANDBOX (cutbox-rows.mjs): the forced cells as the released guide's own fill.sh prints them over the translation e48de1478407e973… (all of the seat's roots in one cut). By AI agents, Wed Nov 11 2026. No macro, syntax, notation, axiom, sorry.
-/
import Derived.Test.YtmalmkccgjeboaaDoorChecked
import GoSem.Claim
import GoSem.ClaimJoined
import GoSem.ClaimMapViews
import Derived.JoinedTies
import Derived.KernelRfl
namespace Go.Proofs.YtmalmkccgjeboaaDoor
/- THE CELL 'sum', in the pinned program and in every row, IS THE sha256 OF THE DUMP (.gsa) THAT YtmalmkccgjeboaaDoorProg.lean LOADS. Nothing in Lean hashes anything: it is a label: what it is worth is what the hold of that sum in a sandbox is worth. -/
noncomputable def Tryd.pinned : Pinned := { name := "ytmalmkccgjeboaadoor", sum := "e48de1478407e97357535ef890d944f7c3c8b87994551328ce3614cd2c105452", checked := Tryd.checked }
namespace Rows
def none {H : Type} : Left H := { results := [], args := [] }

/- WHAT THE LISTED PACKAGE-LEVEL VARIABLES READ AS WHEN THE CALL BEGINS. Each datum BY PROGRAM (the guide's laid-datum.mjs) off the statement by which the dump's own 'gosem.cut.vars' lays the variable. In a bare row this is a premise. The card (YtmalmkccgjeboaaDoorCards.lean) ties it to the program's text. -/
def laid_freehold_space_unmapped {H : Type} : DataW H := .agg [.lit (.bool false), .lit (.bool false)]
def laid_freehold_space_clean {H : Type} : DataW H := .agg [.lit (.bool true), .lit (.bool false)]
def laid_freehold_space_dirty {H : Type} : DataW H := .agg [.lit (.bool true), .lit (.bool true)]

/-- 'freeholdlaw02.SpaceHolds': WHATEVER THE INPUT: true; the input reads as it did. -/
def spaceHoldsSpec : ChangeSpec := { name := "spaceHolds", fn := fun _ => fun
  | [d1, d2, d3, d4, d5] => { results := [.lit (.bool true)], args := [d1, d2, d3, d4, d5] }
  | _ => none }
def spaceHoldsRow : OpenClaim := { program := "ytmalmkccgjeboaadoor", sum := "e48de1478407e97357535ef890d944f7c3c8b87994551328ce3614cd2c105452", func := "freehold/freeholdlaw02.SpaceHolds", spec := "spaceHolds", unfollowed := true, recurses := true, named := ["freehold/space.clean", "freehold/space.unmapped", "freehold/space.dirty"], apart := false, laid := [("freehold/space.unmapped", laid_freehold_space_unmapped), ("freehold/space.clean", laid_freehold_space_clean), ("freehold/space.dirty", laid_freehold_space_dirty)] }
def SpaceHoldsSaid : Prop := spaceHoldsRow.holds Tryd.pinned (OpenSpec.ofChange spaceHoldsSpec)

/-- ITS FALSE NEIGHBOUR: 'it returns false'. Refute it at one input. -/
def spaceHoldsWrong : ChangeSpec := { name := "spaceHolds", fn := fun _ => fun
  | [d1, d2, d3, d4, d5] => { results := [.lit (.bool false)], args := [d1, d2, d3, d4, d5] }
  | _ => none }
def SpaceHoldsWrongFalsely : Prop := spaceHoldsRow.holds Tryd.pinned (OpenSpec.ofChange spaceHoldsWrong)

/-- 'freeholdlaw02.SpacePeak': WHATEVER THE INPUT: true; the input reads as it did. -/
def spacePeakSpec : ChangeSpec := { name := "spacePeak", fn := fun _ => fun
  | [d1, d2] => { results := [.lit (.bool true)], args := [d1, d2] }
  | _ => none }
def spacePeakRow : OpenClaim := { program := "ytmalmkccgjeboaadoor", sum := "e48de1478407e97357535ef890d944f7c3c8b87994551328ce3614cd2c105452", func := "freehold/freeholdlaw02.SpacePeak", spec := "spacePeak", unfollowed := true, recurses := true, named := ["freehold/space.clean", "freehold/space.unmapped", "freehold/space.dirty"], apart := false, laid := [("freehold/space.unmapped", laid_freehold_space_unmapped), ("freehold/space.clean", laid_freehold_space_clean), ("freehold/space.dirty", laid_freehold_space_dirty)] }
def SpacePeakSaid : Prop := spacePeakRow.holds Tryd.pinned (OpenSpec.ofChange spacePeakSpec)

/-- ITS FALSE NEIGHBOUR: 'it returns false'. Refute it at one input. -/
def spacePeakWrong : ChangeSpec := { name := "spacePeak", fn := fun _ => fun
  | [d1, d2] => { results := [.lit (.bool false)], args := [d1, d2] }
  | _ => none }
def SpacePeakWrongFalsely : Prop := spacePeakRow.holds Tryd.pinned (OpenSpec.ofChange spacePeakWrong)

/-- 'freeholdlaw02.SpaceLoses': WHATEVER THE INPUT: true; the input reads as it did. -/
def spaceLosesSpec : ChangeSpec := { name := "spaceLoses", fn := fun _ => fun
  | [d1, d2, d3, d4, d5] => { results := [.lit (.bool true)], args := [d1, d2, d3, d4, d5] }
  | _ => none }
def spaceLosesRow : OpenClaim := { program := "ytmalmkccgjeboaadoor", sum := "e48de1478407e97357535ef890d944f7c3c8b87994551328ce3614cd2c105452", func := "freehold/freeholdlaw02.SpaceLoses", spec := "spaceLoses", unfollowed := true, recurses := true, named := ["freehold/space.clean", "freehold/space.unmapped", "freehold/space.dirty"], apart := false, laid := [("freehold/space.unmapped", laid_freehold_space_unmapped), ("freehold/space.clean", laid_freehold_space_clean), ("freehold/space.dirty", laid_freehold_space_dirty)] }
def SpaceLosesSaid : Prop := spaceLosesRow.holds Tryd.pinned (OpenSpec.ofChange spaceLosesSpec)

/-- ITS FALSE NEIGHBOUR: 'it returns false'. Refute it at one input. -/
def spaceLosesWrong : ChangeSpec := { name := "spaceLoses", fn := fun _ => fun
  | [d1, d2, d3, d4, d5] => { results := [.lit (.bool false)], args := [d1, d2, d3, d4, d5] }
  | _ => none }
def SpaceLosesWrongFalsely : Prop := spaceLosesRow.holds Tryd.pinned (OpenSpec.ofChange spaceLosesWrong)

/-- 'freeholdlaw02.SpaceCopies': WHATEVER THE INPUT: true; the input reads as it did. -/
def spaceCopiesSpec : ChangeSpec := { name := "spaceCopies", fn := fun _ => fun
  | [d1, d2, d3, d4, d5, d6, d7] => { results := [.lit (.bool true)], args := [d1, d2, d3, d4, d5, d6, d7] }
  | _ => none }
def spaceCopiesRow : OpenClaim := { program := "ytmalmkccgjeboaadoor", sum := "e48de1478407e97357535ef890d944f7c3c8b87994551328ce3614cd2c105452", func := "freehold/freeholdlaw02.SpaceCopies", spec := "spaceCopies", unfollowed := true, recurses := true, named := ["freehold/space.clean", "freehold/space.unmapped", "freehold/space.dirty"], apart := false, laid := [("freehold/space.unmapped", laid_freehold_space_unmapped), ("freehold/space.clean", laid_freehold_space_clean), ("freehold/space.dirty", laid_freehold_space_dirty)] }
def SpaceCopiesSaid : Prop := spaceCopiesRow.holds Tryd.pinned (OpenSpec.ofChange spaceCopiesSpec)

/-- ITS FALSE NEIGHBOUR: 'it returns false'. Refute it at one input. -/
def spaceCopiesWrong : ChangeSpec := { name := "spaceCopies", fn := fun _ => fun
  | [d1, d2, d3, d4, d5, d6, d7] => { results := [.lit (.bool false)], args := [d1, d2, d3, d4, d5, d6, d7] }
  | _ => none }
def SpaceCopiesWrongFalsely : Prop := spaceCopiesRow.holds Tryd.pinned (OpenSpec.ofChange spaceCopiesWrong)

/-- 'freeholdlaw02.SpaceRefuses': WHATEVER THE INPUT: true; the input reads as it did. -/
def spaceRefusesSpec : ChangeSpec := { name := "spaceRefuses", fn := fun _ => fun
  | [d1, d2, d3] => { results := [.lit (.bool true)], args := [d1, d2, d3] }
  | _ => none }
def spaceRefusesRow : OpenClaim := { program := "ytmalmkccgjeboaadoor", sum := "e48de1478407e97357535ef890d944f7c3c8b87994551328ce3614cd2c105452", func := "freehold/freeholdlaw02.SpaceRefuses", spec := "spaceRefuses", unfollowed := true, recurses := true, named := ["freehold/space.clean", "freehold/space.unmapped", "freehold/space.dirty"], apart := false, laid := [("freehold/space.unmapped", laid_freehold_space_unmapped), ("freehold/space.clean", laid_freehold_space_clean), ("freehold/space.dirty", laid_freehold_space_dirty)] }
def SpaceRefusesSaid : Prop := spaceRefusesRow.holds Tryd.pinned (OpenSpec.ofChange spaceRefusesSpec)

/-- ITS FALSE NEIGHBOUR: 'it returns false'. Refute it at one input. -/
def spaceRefusesWrong : ChangeSpec := { name := "spaceRefuses", fn := fun _ => fun
  | [d1, d2, d3] => { results := [.lit (.bool false)], args := [d1, d2, d3] }
  | _ => none }
def SpaceRefusesWrongFalsely : Prop := spaceRefusesRow.holds Tryd.pinned (OpenSpec.ofChange spaceRefusesWrong)

/-- 'freeholdlaw02.SpaceClones': WHATEVER THE INPUT: true; the input reads as it did. -/
def spaceClonesSpec : ChangeSpec := { name := "spaceClones", fn := fun _ => fun
  | [d1, d2, d3, d4] => { results := [.lit (.bool true)], args := [d1, d2, d3, d4] }
  | _ => none }
def spaceClonesRow : OpenClaim := { program := "ytmalmkccgjeboaadoor", sum := "e48de1478407e97357535ef890d944f7c3c8b87994551328ce3614cd2c105452", func := "freehold/freeholdlaw02.SpaceClones", spec := "spaceClones", unfollowed := true, recurses := true, named := ["freehold/space.clean", "freehold/space.unmapped", "freehold/space.dirty"], apart := false, laid := [("freehold/space.unmapped", laid_freehold_space_unmapped), ("freehold/space.clean", laid_freehold_space_clean), ("freehold/space.dirty", laid_freehold_space_dirty)] }
def SpaceClonesSaid : Prop := spaceClonesRow.holds Tryd.pinned (OpenSpec.ofChange spaceClonesSpec)

/-- ITS FALSE NEIGHBOUR: 'it returns false'. Refute it at one input. -/
def spaceClonesWrong : ChangeSpec := { name := "spaceClones", fn := fun _ => fun
  | [d1, d2, d3, d4] => { results := [.lit (.bool false)], args := [d1, d2, d3, d4] }
  | _ => none }
def SpaceClonesWrongFalsely : Prop := spaceClonesRow.holds Tryd.pinned (OpenSpec.ofChange spaceClonesWrong)

/-- 'freeholdlaw02.SpacePlays': WHATEVER THE INPUT: true; the input reads as it did. -/
def spacePlaysSpec : ChangeSpec := { name := "spacePlays", fn := fun _ => fun
  | [d1, d2] => { results := [.lit (.bool true)], args := [d1, d2] }
  | _ => none }
def spacePlaysRow : OpenClaim := { program := "ytmalmkccgjeboaadoor", sum := "e48de1478407e97357535ef890d944f7c3c8b87994551328ce3614cd2c105452", func := "freehold/freeholdlaw02.SpacePlays", spec := "spacePlays", unfollowed := true, recurses := true, named := ["freehold/space.clean", "freehold/space.unmapped", "freehold/space.dirty"], apart := false, laid := [("freehold/space.unmapped", laid_freehold_space_unmapped), ("freehold/space.clean", laid_freehold_space_clean), ("freehold/space.dirty", laid_freehold_space_dirty)] }
def SpacePlaysSaid : Prop := spacePlaysRow.holds Tryd.pinned (OpenSpec.ofChange spacePlaysSpec)

/-- ITS FALSE NEIGHBOUR: 'it returns false'. Refute it at one input. -/
def spacePlaysWrong : ChangeSpec := { name := "spacePlays", fn := fun _ => fun
  | [d1, d2] => { results := [.lit (.bool false)], args := [d1, d2] }
  | _ => none }
def SpacePlaysWrongFalsely : Prop := spacePlaysRow.holds Tryd.pinned (OpenSpec.ofChange spacePlaysWrong)

/-- 'freeholdlaw02.SpaceNone': WHATEVER THE INPUT: true; the input reads as it did. -/
def spaceNoneSpec : ChangeSpec := { name := "spaceNone", fn := fun _ => fun
  | [d] => { results := [.lit (.bool true)], args := [d] }
  | _ => none }
def spaceNoneRow : OpenClaim := { program := "ytmalmkccgjeboaadoor", sum := "e48de1478407e97357535ef890d944f7c3c8b87994551328ce3614cd2c105452", func := "freehold/freeholdlaw02.SpaceNone", spec := "spaceNone", unfollowed := true, recurses := true, named := ["freehold/space.clean", "freehold/space.unmapped", "freehold/space.dirty"], apart := false, laid := [("freehold/space.unmapped", laid_freehold_space_unmapped), ("freehold/space.clean", laid_freehold_space_clean), ("freehold/space.dirty", laid_freehold_space_dirty)] }
def SpaceNoneSaid : Prop := spaceNoneRow.holds Tryd.pinned (OpenSpec.ofChange spaceNoneSpec)

/-- ITS FALSE NEIGHBOUR: 'it returns false'. Refute it at one input. -/
def spaceNoneWrong : ChangeSpec := { name := "spaceNone", fn := fun _ => fun
  | [d] => { results := [.lit (.bool false)], args := [d] }
  | _ => none }
def SpaceNoneWrongFalsely : Prop := spaceNoneRow.holds Tryd.pinned (OpenSpec.ofChange spaceNoneWrong)

/-- 'freeholdlaw02.SpaceStates': WHATEVER THE INPUT: true; the input reads as it did. -/
def spaceStatesSpec : ChangeSpec := { name := "spaceStates", fn := fun _ => fun
  | [d1, d2, d3] => { results := [.lit (.bool true)], args := [d1, d2, d3] }
  | _ => none }
def spaceStatesRow : OpenClaim := { program := "ytmalmkccgjeboaadoor", sum := "e48de1478407e97357535ef890d944f7c3c8b87994551328ce3614cd2c105452", func := "freehold/freeholdlaw02.SpaceStates", spec := "spaceStates", unfollowed := true, recurses := true, named := ["freehold/space.clean", "freehold/space.unmapped", "freehold/space.dirty"], apart := false, laid := [("freehold/space.unmapped", laid_freehold_space_unmapped), ("freehold/space.clean", laid_freehold_space_clean), ("freehold/space.dirty", laid_freehold_space_dirty)] }
def SpaceStatesSaid : Prop := spaceStatesRow.holds Tryd.pinned (OpenSpec.ofChange spaceStatesSpec)

/-- ITS FALSE NEIGHBOUR: 'it returns false'. Refute it at one input. -/
def spaceStatesWrong : ChangeSpec := { name := "spaceStates", fn := fun _ => fun
  | [d1, d2, d3] => { results := [.lit (.bool false)], args := [d1, d2, d3] }
  | _ => none }
def SpaceStatesWrongFalsely : Prop := spaceStatesRow.holds Tryd.pinned (OpenSpec.ofChange spaceStatesWrong)

/- THE SECOND FORM. 'bulk': how many values and letters a reading holds, each counted each time it is reached (what is shared counts as often as it is met; a slice's spare places count too). A statement '..UptoSaid' is the law's where the arguments, and the package variables that the reading takes, are together of bulk at most 1048576: NARROWER than '..Said'. Prove '..Said' where nothing that the law and all that it calls make is longer than what came in: it says more and counts as full. Else prove '..UptoSaid'. A law counts once. -/
mutual
def uptoBulk {H : Type} : DataW H → Nat
  | .lit (.string bytes) => bytes.length + 1
  | .lit _ => 1
  | .nil => 1
  | .ptr d => uptoBulk d + 1
  | .slice elems spare => uptoBulkAll elems + uptoBulkAll spare + 1
  | .agg parts => uptoBulkAll parts + 1
  | .iface _ d => uptoBulk d + 1
  | .map entries => uptoBulkEntries entries + 1
  | .held _ => 1
def uptoBulkAll {H : Type} : List (DataW H) → Nat
  | [] => 0
  | d :: r => uptoBulk d + uptoBulkAll r
def uptoBulkEntries {H : Type} : List (Lit × DataW H) → Nat
  | [] => 0
  | x :: r => uptoBulkEntry x + uptoBulkEntries r
def uptoBulkEntry {H : Type} : Lit × DataW H → Nat
  | (.string bytes, d) => bytes.length + uptoBulk d + 1
  | (_, d) => uptoBulk d + 1
 end
def uptoSmall : (H : Type) → List (DataW H) → Bool := fun _ ds => decide (uptoBulkAll ds ≤ 1048576)
def OpenSpec.upto (s : _root_.Go.ChangeSpec) : _root_.Go.OpenSpec := { _root_.Go.OpenSpec.ofChange s with cond := some uptoSmall }

/-- 'freeholdlaw02.SpaceHolds', WHERE WHAT IT READS IS OF BULK AT MOST 1048576: true; the input reads as it did. -/
def spaceHoldsUptoRow : OpenClaim := { program := "ytmalmkccgjeboaadoor", sum := "e48de1478407e97357535ef890d944f7c3c8b87994551328ce3614cd2c105452", func := "freehold/freeholdlaw02.SpaceHolds", spec := "spaceHolds", unfollowed := true, recurses := true, named := ["freehold/space.clean", "freehold/space.unmapped", "freehold/space.dirty"], apart := false, laid := [("freehold/space.unmapped", laid_freehold_space_unmapped), ("freehold/space.clean", laid_freehold_space_clean), ("freehold/space.dirty", laid_freehold_space_dirty)], narrowed := true }
def SpaceHoldsUptoSaid : Prop := spaceHoldsUptoRow.holds Tryd.pinned (OpenSpec.upto spaceHoldsSpec)

/-- 'freeholdlaw02.SpacePeak', WHERE WHAT IT READS IS OF BULK AT MOST 1048576: true; the input reads as it did. -/
def spacePeakUptoRow : OpenClaim := { program := "ytmalmkccgjeboaadoor", sum := "e48de1478407e97357535ef890d944f7c3c8b87994551328ce3614cd2c105452", func := "freehold/freeholdlaw02.SpacePeak", spec := "spacePeak", unfollowed := true, recurses := true, named := ["freehold/space.clean", "freehold/space.unmapped", "freehold/space.dirty"], apart := false, laid := [("freehold/space.unmapped", laid_freehold_space_unmapped), ("freehold/space.clean", laid_freehold_space_clean), ("freehold/space.dirty", laid_freehold_space_dirty)], narrowed := true }
def SpacePeakUptoSaid : Prop := spacePeakUptoRow.holds Tryd.pinned (OpenSpec.upto spacePeakSpec)

/-- 'freeholdlaw02.SpaceLoses', WHERE WHAT IT READS IS OF BULK AT MOST 1048576: true; the input reads as it did. -/
def spaceLosesUptoRow : OpenClaim := { program := "ytmalmkccgjeboaadoor", sum := "e48de1478407e97357535ef890d944f7c3c8b87994551328ce3614cd2c105452", func := "freehold/freeholdlaw02.SpaceLoses", spec := "spaceLoses", unfollowed := true, recurses := true, named := ["freehold/space.clean", "freehold/space.unmapped", "freehold/space.dirty"], apart := false, laid := [("freehold/space.unmapped", laid_freehold_space_unmapped), ("freehold/space.clean", laid_freehold_space_clean), ("freehold/space.dirty", laid_freehold_space_dirty)], narrowed := true }
def SpaceLosesUptoSaid : Prop := spaceLosesUptoRow.holds Tryd.pinned (OpenSpec.upto spaceLosesSpec)

/-- 'freeholdlaw02.SpaceCopies', WHERE WHAT IT READS IS OF BULK AT MOST 1048576: true; the input reads as it did. -/
def spaceCopiesUptoRow : OpenClaim := { program := "ytmalmkccgjeboaadoor", sum := "e48de1478407e97357535ef890d944f7c3c8b87994551328ce3614cd2c105452", func := "freehold/freeholdlaw02.SpaceCopies", spec := "spaceCopies", unfollowed := true, recurses := true, named := ["freehold/space.clean", "freehold/space.unmapped", "freehold/space.dirty"], apart := false, laid := [("freehold/space.unmapped", laid_freehold_space_unmapped), ("freehold/space.clean", laid_freehold_space_clean), ("freehold/space.dirty", laid_freehold_space_dirty)], narrowed := true }
def SpaceCopiesUptoSaid : Prop := spaceCopiesUptoRow.holds Tryd.pinned (OpenSpec.upto spaceCopiesSpec)

/-- 'freeholdlaw02.SpaceRefuses', WHERE WHAT IT READS IS OF BULK AT MOST 1048576: true; the input reads as it did. -/
def spaceRefusesUptoRow : OpenClaim := { program := "ytmalmkccgjeboaadoor", sum := "e48de1478407e97357535ef890d944f7c3c8b87994551328ce3614cd2c105452", func := "freehold/freeholdlaw02.SpaceRefuses", spec := "spaceRefuses", unfollowed := true, recurses := true, named := ["freehold/space.clean", "freehold/space.unmapped", "freehold/space.dirty"], apart := false, laid := [("freehold/space.unmapped", laid_freehold_space_unmapped), ("freehold/space.clean", laid_freehold_space_clean), ("freehold/space.dirty", laid_freehold_space_dirty)], narrowed := true }
def SpaceRefusesUptoSaid : Prop := spaceRefusesUptoRow.holds Tryd.pinned (OpenSpec.upto spaceRefusesSpec)

/-- 'freeholdlaw02.SpaceClones', WHERE WHAT IT READS IS OF BULK AT MOST 1048576: true; the input reads as it did. -/
def spaceClonesUptoRow : OpenClaim := { program := "ytmalmkccgjeboaadoor", sum := "e48de1478407e97357535ef890d944f7c3c8b87994551328ce3614cd2c105452", func := "freehold/freeholdlaw02.SpaceClones", spec := "spaceClones", unfollowed := true, recurses := true, named := ["freehold/space.clean", "freehold/space.unmapped", "freehold/space.dirty"], apart := false, laid := [("freehold/space.unmapped", laid_freehold_space_unmapped), ("freehold/space.clean", laid_freehold_space_clean), ("freehold/space.dirty", laid_freehold_space_dirty)], narrowed := true }
def SpaceClonesUptoSaid : Prop := spaceClonesUptoRow.holds Tryd.pinned (OpenSpec.upto spaceClonesSpec)

/-- 'freeholdlaw02.SpacePlays', WHERE WHAT IT READS IS OF BULK AT MOST 1048576: true; the input reads as it did. -/
def spacePlaysUptoRow : OpenClaim := { program := "ytmalmkccgjeboaadoor", sum := "e48de1478407e97357535ef890d944f7c3c8b87994551328ce3614cd2c105452", func := "freehold/freeholdlaw02.SpacePlays", spec := "spacePlays", unfollowed := true, recurses := true, named := ["freehold/space.clean", "freehold/space.unmapped", "freehold/space.dirty"], apart := false, laid := [("freehold/space.unmapped", laid_freehold_space_unmapped), ("freehold/space.clean", laid_freehold_space_clean), ("freehold/space.dirty", laid_freehold_space_dirty)], narrowed := true }
def SpacePlaysUptoSaid : Prop := spacePlaysUptoRow.holds Tryd.pinned (OpenSpec.upto spacePlaysSpec)

/-- 'freeholdlaw02.SpaceNone', WHERE WHAT IT READS IS OF BULK AT MOST 1048576: true; the input reads as it did. -/
def spaceNoneUptoRow : OpenClaim := { program := "ytmalmkccgjeboaadoor", sum := "e48de1478407e97357535ef890d944f7c3c8b87994551328ce3614cd2c105452", func := "freehold/freeholdlaw02.SpaceNone", spec := "spaceNone", unfollowed := true, recurses := true, named := ["freehold/space.clean", "freehold/space.unmapped", "freehold/space.dirty"], apart := false, laid := [("freehold/space.unmapped", laid_freehold_space_unmapped), ("freehold/space.clean", laid_freehold_space_clean), ("freehold/space.dirty", laid_freehold_space_dirty)], narrowed := true }
def SpaceNoneUptoSaid : Prop := spaceNoneUptoRow.holds Tryd.pinned (OpenSpec.upto spaceNoneSpec)

/-- 'freeholdlaw02.SpaceStates', WHERE WHAT IT READS IS OF BULK AT MOST 1048576: true; the input reads as it did. -/
def spaceStatesUptoRow : OpenClaim := { program := "ytmalmkccgjeboaadoor", sum := "e48de1478407e97357535ef890d944f7c3c8b87994551328ce3614cd2c105452", func := "freehold/freeholdlaw02.SpaceStates", spec := "spaceStates", unfollowed := true, recurses := true, named := ["freehold/space.clean", "freehold/space.unmapped", "freehold/space.dirty"], apart := false, laid := [("freehold/space.unmapped", laid_freehold_space_unmapped), ("freehold/space.clean", laid_freehold_space_clean), ("freehold/space.dirty", laid_freehold_space_dirty)], narrowed := true }
def SpaceStatesUptoSaid : Prop := spaceStatesUptoRow.holds Tryd.pinned (OpenSpec.upto spaceStatesSpec)

end Rows
end Go.Proofs.YtmalmkccgjeboaaDoor

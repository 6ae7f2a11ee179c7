/-
  DERIVED. GIVEN WITH THE SEED: THE CARDS: each row of YtmalmkccgjeboaaDoorRows.lean that lists a variable, with what it lists TIED to the program's text (the seventh form; the later family's looks); each row that meets fmt, with fmt's text TOLD by the authors' own Lean function (tested against real Go, not proved from fmt's source: count such statements apart). THE CARD IS WHAT COUNTS. Prove the row's statement (the work); the ties are given (YtmalmkccgjeboaaDoorTie.lean); close each card by the builder's one call (the guide's Derived/Test/ToyasCard.lean, 'card_holds'). Laid BY PROGRAM, IN A SANDBOX (cutbox-door.mjs). By AI agents, Wed Nov 11 2026. No macro, syntax, notation, axiom, sorry.
-/
import Derived.Test.YtmalmkccgjeboaaDoorRows
import GoSem.ClaimSeven
namespace Go.Proofs.YtmalmkccgjeboaaDoor
namespace Rows

/-- THE TIED CARD OF 'freeholdlaw02.SpaceHolds'. -/
def spaceHoldsCard : Claim7 := { stood := { row := spaceHoldsRow, standIns := [], harness := (true, "62c96dde034be294af51d1967295624de6f81559ee9dc42d32163e2f622684f2"), looks := false }, kinds := [], alts := [], laidByText := true, laidKinds := [.data, .data, .data], laidTests := true, laidLooks := .later }
def SpaceHoldsCardSaid : Prop := Claim7.holds Tryd.pinned (.plain (OpenSpec.ofChange spaceHoldsSpec)) spaceHoldsCard

/-- THE TIED CARD OF 'freeholdlaw02.SpacePeak'. -/
def spacePeakCard : Claim7 := { stood := { row := spacePeakRow, standIns := [], harness := (true, "62c96dde034be294af51d1967295624de6f81559ee9dc42d32163e2f622684f2"), looks := false }, kinds := [], alts := [], laidByText := true, laidKinds := [.data, .data, .data], laidTests := true, laidLooks := .later }
def SpacePeakCardSaid : Prop := Claim7.holds Tryd.pinned (.plain (OpenSpec.ofChange spacePeakSpec)) spacePeakCard

/-- THE TIED CARD OF 'freeholdlaw02.SpaceLoses'. -/
def spaceLosesCard : Claim7 := { stood := { row := spaceLosesRow, standIns := [], harness := (true, "62c96dde034be294af51d1967295624de6f81559ee9dc42d32163e2f622684f2"), looks := false }, kinds := [], alts := [], laidByText := true, laidKinds := [.data, .data, .data], laidTests := true, laidLooks := .later }
def SpaceLosesCardSaid : Prop := Claim7.holds Tryd.pinned (.plain (OpenSpec.ofChange spaceLosesSpec)) spaceLosesCard

/-- THE TIED CARD OF 'freeholdlaw02.SpaceCopies'. -/
def spaceCopiesCard : Claim7 := { stood := { row := spaceCopiesRow, standIns := [], harness := (true, "62c96dde034be294af51d1967295624de6f81559ee9dc42d32163e2f622684f2"), looks := false }, kinds := [], alts := [], laidByText := true, laidKinds := [.data, .data, .data], laidTests := true, laidLooks := .later }
def SpaceCopiesCardSaid : Prop := Claim7.holds Tryd.pinned (.plain (OpenSpec.ofChange spaceCopiesSpec)) spaceCopiesCard

/-- THE TIED CARD OF 'freeholdlaw02.SpaceRefuses'. -/
def spaceRefusesCard : Claim7 := { stood := { row := spaceRefusesRow, standIns := [], harness := (true, "62c96dde034be294af51d1967295624de6f81559ee9dc42d32163e2f622684f2"), looks := false }, kinds := [], alts := [], laidByText := true, laidKinds := [.data, .data, .data], laidTests := true, laidLooks := .later }
def SpaceRefusesCardSaid : Prop := Claim7.holds Tryd.pinned (.plain (OpenSpec.ofChange spaceRefusesSpec)) spaceRefusesCard

/-- THE TIED CARD OF 'freeholdlaw02.SpaceClones'. -/
def spaceClonesCard : Claim7 := { stood := { row := spaceClonesRow, standIns := [], harness := (true, "62c96dde034be294af51d1967295624de6f81559ee9dc42d32163e2f622684f2"), looks := false }, kinds := [], alts := [], laidByText := true, laidKinds := [.data, .data, .data], laidTests := true, laidLooks := .later }
def SpaceClonesCardSaid : Prop := Claim7.holds Tryd.pinned (.plain (OpenSpec.ofChange spaceClonesSpec)) spaceClonesCard

/-- THE TIED CARD OF 'freeholdlaw02.SpacePlays'. -/
def spacePlaysCard : Claim7 := { stood := { row := spacePlaysRow, standIns := [], harness := (true, "62c96dde034be294af51d1967295624de6f81559ee9dc42d32163e2f622684f2"), looks := false }, kinds := [], alts := [], laidByText := true, laidKinds := [.data, .data, .data], laidTests := true, laidLooks := .later }
def SpacePlaysCardSaid : Prop := Claim7.holds Tryd.pinned (.plain (OpenSpec.ofChange spacePlaysSpec)) spacePlaysCard

/-- THE TIED CARD OF 'freeholdlaw02.SpaceNone'. -/
def spaceNoneCard : Claim7 := { stood := { row := spaceNoneRow, standIns := [], harness := (true, "62c96dde034be294af51d1967295624de6f81559ee9dc42d32163e2f622684f2"), looks := false }, kinds := [], alts := [], laidByText := true, laidKinds := [.data, .data, .data], laidTests := true, laidLooks := .later }
def SpaceNoneCardSaid : Prop := Claim7.holds Tryd.pinned (.plain (OpenSpec.ofChange spaceNoneSpec)) spaceNoneCard

/-- THE TIED CARD OF 'freeholdlaw02.SpaceStates'. -/
def spaceStatesCard : Claim7 := { stood := { row := spaceStatesRow, standIns := [], harness := (true, "62c96dde034be294af51d1967295624de6f81559ee9dc42d32163e2f622684f2"), looks := false }, kinds := [], alts := [], laidByText := true, laidKinds := [.data, .data, .data], laidTests := true, laidLooks := .later }
def SpaceStatesCardSaid : Prop := Claim7.holds Tryd.pinned (.plain (OpenSpec.ofChange spaceStatesSpec)) spaceStatesCard

/-- THE SECOND FORM's CARD OF 'freeholdlaw02.SpaceHolds'. -/
def spaceHoldsUptoCard : Claim7 := { stood := { row := spaceHoldsUptoRow, standIns := [], harness := (true, "62c96dde034be294af51d1967295624de6f81559ee9dc42d32163e2f622684f2"), looks := false }, kinds := [], alts := [], laidByText := true, laidKinds := [.data, .data, .data], laidTests := true, laidLooks := .later }
def SpaceHoldsUptoCardSaid : Prop := Claim7.holds Tryd.pinned (.plain (OpenSpec.upto spaceHoldsSpec)) spaceHoldsUptoCard

/-- THE SECOND FORM's CARD OF 'freeholdlaw02.SpacePeak'. -/
def spacePeakUptoCard : Claim7 := { stood := { row := spacePeakUptoRow, standIns := [], harness := (true, "62c96dde034be294af51d1967295624de6f81559ee9dc42d32163e2f622684f2"), looks := false }, kinds := [], alts := [], laidByText := true, laidKinds := [.data, .data, .data], laidTests := true, laidLooks := .later }
def SpacePeakUptoCardSaid : Prop := Claim7.holds Tryd.pinned (.plain (OpenSpec.upto spacePeakSpec)) spacePeakUptoCard

/-- THE SECOND FORM's CARD OF 'freeholdlaw02.SpaceLoses'. -/
def spaceLosesUptoCard : Claim7 := { stood := { row := spaceLosesUptoRow, standIns := [], harness := (true, "62c96dde034be294af51d1967295624de6f81559ee9dc42d32163e2f622684f2"), looks := false }, kinds := [], alts := [], laidByText := true, laidKinds := [.data, .data, .data], laidTests := true, laidLooks := .later }
def SpaceLosesUptoCardSaid : Prop := Claim7.holds Tryd.pinned (.plain (OpenSpec.upto spaceLosesSpec)) spaceLosesUptoCard

/-- THE SECOND FORM's CARD OF 'freeholdlaw02.SpaceCopies'. -/
def spaceCopiesUptoCard : Claim7 := { stood := { row := spaceCopiesUptoRow, standIns := [], harness := (true, "62c96dde034be294af51d1967295624de6f81559ee9dc42d32163e2f622684f2"), looks := false }, kinds := [], alts := [], laidByText := true, laidKinds := [.data, .data, .data], laidTests := true, laidLooks := .later }
def SpaceCopiesUptoCardSaid : Prop := Claim7.holds Tryd.pinned (.plain (OpenSpec.upto spaceCopiesSpec)) spaceCopiesUptoCard

/-- THE SECOND FORM's CARD OF 'freeholdlaw02.SpaceRefuses'. -/
def spaceRefusesUptoCard : Claim7 := { stood := { row := spaceRefusesUptoRow, standIns := [], harness := (true, "62c96dde034be294af51d1967295624de6f81559ee9dc42d32163e2f622684f2"), looks := false }, kinds := [], alts := [], laidByText := true, laidKinds := [.data, .data, .data], laidTests := true, laidLooks := .later }
def SpaceRefusesUptoCardSaid : Prop := Claim7.holds Tryd.pinned (.plain (OpenSpec.upto spaceRefusesSpec)) spaceRefusesUptoCard

/-- THE SECOND FORM's CARD OF 'freeholdlaw02.SpaceClones'. -/
def spaceClonesUptoCard : Claim7 := { stood := { row := spaceClonesUptoRow, standIns := [], harness := (true, "62c96dde034be294af51d1967295624de6f81559ee9dc42d32163e2f622684f2"), looks := false }, kinds := [], alts := [], laidByText := true, laidKinds := [.data, .data, .data], laidTests := true, laidLooks := .later }
def SpaceClonesUptoCardSaid : Prop := Claim7.holds Tryd.pinned (.plain (OpenSpec.upto spaceClonesSpec)) spaceClonesUptoCard

/-- THE SECOND FORM's CARD OF 'freeholdlaw02.SpacePlays'. -/
def spacePlaysUptoCard : Claim7 := { stood := { row := spacePlaysUptoRow, standIns := [], harness := (true, "62c96dde034be294af51d1967295624de6f81559ee9dc42d32163e2f622684f2"), looks := false }, kinds := [], alts := [], laidByText := true, laidKinds := [.data, .data, .data], laidTests := true, laidLooks := .later }
def SpacePlaysUptoCardSaid : Prop := Claim7.holds Tryd.pinned (.plain (OpenSpec.upto spacePlaysSpec)) spacePlaysUptoCard

/-- THE SECOND FORM's CARD OF 'freeholdlaw02.SpaceNone'. -/
def spaceNoneUptoCard : Claim7 := { stood := { row := spaceNoneUptoRow, standIns := [], harness := (true, "62c96dde034be294af51d1967295624de6f81559ee9dc42d32163e2f622684f2"), looks := false }, kinds := [], alts := [], laidByText := true, laidKinds := [.data, .data, .data], laidTests := true, laidLooks := .later }
def SpaceNoneUptoCardSaid : Prop := Claim7.holds Tryd.pinned (.plain (OpenSpec.upto spaceNoneSpec)) spaceNoneUptoCard

/-- THE SECOND FORM's CARD OF 'freeholdlaw02.SpaceStates'. -/
def spaceStatesUptoCard : Claim7 := { stood := { row := spaceStatesUptoRow, standIns := [], harness := (true, "62c96dde034be294af51d1967295624de6f81559ee9dc42d32163e2f622684f2"), looks := false }, kinds := [], alts := [], laidByText := true, laidKinds := [.data, .data, .data], laidTests := true, laidLooks := .later }
def SpaceStatesUptoCardSaid : Prop := Claim7.holds Tryd.pinned (.plain (OpenSpec.upto spaceStatesSpec)) spaceStatesUptoCard
end Rows
end Go.Proofs.YtmalmkccgjeboaaDoor

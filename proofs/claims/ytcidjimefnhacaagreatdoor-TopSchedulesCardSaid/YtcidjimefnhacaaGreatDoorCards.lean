/-
  DERIVED. GIVEN WITH THE SEED: THE CARDS: each row of YtcidjimefnhacaaGreatDoorRows.lean that lists a variable, with what it lists TIED to the program's text (the seventh form; the later family's looks); each row that meets fmt, with fmt's text TOLD by the authors' own Lean function (tested against real Go, not proved from fmt's source: count such statements apart). THE CARD IS WHAT COUNTS. Prove the row's statement (the work); the ties are given (YtcidjimefnhacaaGreatDoorTie.lean); close each card by the builder's one call (the guide's Derived/Test/ToyasCard.lean, 'card_holds'). Laid BY PROGRAM, IN A SANDBOX (cutbox-door.mjs). By AI agents, Wed Nov 11 2026. No macro, syntax, notation, axiom, sorry.
-/
import Derived.Test.YtcidjimefnhacaaGreatDoorRows
import GoSem.ClaimSeven
namespace Go.Proofs.YtcidjimefnhacaaGreatDoor
namespace Rows

/-- THE TIED CARD OF 'freeholdtop.TopSchedules'. -/
def topSchedulesCard : Claim7 := { stood := { row := topSchedulesRow, standIns := [], harness := (true, "4edc0c1fd63658740104c685985ae8c6f2c9374d26f70720894d9dde884358c2"), looks := true }, kinds := [], alts := [], laidByText := true, laidKinds := [.data, .data, .data], laidTests := true, laidLooks := .later }
def TopSchedulesCardSaid : Prop := Claim7.holds Tryz.pinned (.plain (OpenSpec.ofChange topSchedulesSpec)) topSchedulesCard

/-- THE SECOND FORM's CARD OF 'freeholdtop.TopSchedules'. -/
def topSchedulesUptoCard : Claim7 := { stood := { row := topSchedulesUptoRow, standIns := [], harness := (true, "4edc0c1fd63658740104c685985ae8c6f2c9374d26f70720894d9dde884358c2"), looks := true }, kinds := [], alts := [], laidByText := true, laidKinds := [.data, .data, .data], laidTests := true, laidLooks := .later }
def TopSchedulesUptoCardSaid : Prop := Claim7.holds Tryz.pinned (.plain (OpenSpec.upto topSchedulesSpec)) topSchedulesUptoCard
end Rows
end Go.Proofs.YtcidjimefnhacaaGreatDoor

/-
  No cell of these rows narrows 'for every input' (looked for: loops, veiled, ifaces, maps, wideKeys, modest, calm, conditions, laid).
  DERIVED. THE GIVEN ROWS OF THIS SEAT. 10 by the template 'for every input the law returns true; each argument reads behind the call as it read before'; 0 by the template 'total and deterministic' (their statements: YtlmjelcnldlagaaTotals.lean).
  GIVEN WITH THE SEED: the statements are not yours to turn. If you find one false, say at which input.
  Laid BY PROGRAM, IN A SANDBOX (cutbox-rows.mjs): the forced cells as the released guide's own fill.sh prints them over the translation 7a3293c374ac281f… (all of the seat's roots in one cut). By AI agents, Wed Nov 11 2026. No macro, syntax, notation, axiom, sorry.
-/
import Derived.Test.YtlmjelcnldlagaaChecked
import GoSem.Claim
import GoSem.ClaimJoined
import GoSem.ClaimMapViews
import Derived.JoinedTies
import Derived.KernelRfl
namespace Go.Proofs.Ytlmjelcnldlagaa
/- THE CELL 'sum', in the pinned program and in every row, IS THE sha256 OF THE DUMP (.gsa) THAT YtlmjelcnldlagaaProg.lean LOADS. Nothing in Lean hashes anything: it is a label: what it is worth is what the hold of that sum in a sandbox is worth. -/
noncomputable def Try.pinned : Pinned := { name := "ytlmjelcnldlagaa", sum := "7a3293c374ac281f1fd347cf8ce2bb9463b7a9f064cb6f73b6e57a3ab1ae4a9a", checked := Try.checked }
namespace Rows
def none {H : Type} : Left H := { results := [], args := [] }

/-- 'freeholdlaw07.CentralSwept': WHATEVER THE INPUT: true; the input reads as it did. -/
def centralSweptSpec : ChangeSpec := { name := "centralSwept", fn := fun _ => fun
  | [d1, d2, d3] => { results := [.lit (.bool true)], args := [d1, d2, d3] }
  | _ => none }
def centralSweptRow : OpenClaim := { program := "ytlmjelcnldlagaa", sum := "7a3293c374ac281f1fd347cf8ce2bb9463b7a9f064cb6f73b6e57a3ab1ae4a9a", func := "freehold/freeholdlaw07.CentralSwept", spec := "centralSwept", inPlace := ["slices.overlaps[freehold/central.entry]"], unfollowed := true, recurses := true, apart := false }
def CentralSweptSaid : Prop := centralSweptRow.holds Try.pinned (OpenSpec.ofChange centralSweptSpec)

/-- ITS FALSE NEIGHBOUR: 'it returns false'. Refute it at one input. -/
def centralSweptWrong : ChangeSpec := { name := "centralSwept", fn := fun _ => fun
  | [d1, d2, d3] => { results := [.lit (.bool false)], args := [d1, d2, d3] }
  | _ => none }
def CentralSweptWrongFalsely : Prop := centralSweptRow.holds Try.pinned (OpenSpec.ofChange centralSweptWrong)

/-- 'freeholdlaw07.CentralFullest': WHATEVER THE INPUT: true; the input reads as it did. -/
def centralFullestSpec : ChangeSpec := { name := "centralFullest", fn := fun _ => fun
  | [d1, d2] => { results := [.lit (.bool true)], args := [d1, d2] }
  | _ => none }
def centralFullestRow : OpenClaim := { program := "ytlmjelcnldlagaa", sum := "7a3293c374ac281f1fd347cf8ce2bb9463b7a9f064cb6f73b6e57a3ab1ae4a9a", func := "freehold/freeholdlaw07.CentralFullest", spec := "centralFullest", inPlace := ["slices.overlaps[freehold/central.entry]"], unfollowed := true, recurses := true, apart := false }
def CentralFullestSaid : Prop := centralFullestRow.holds Try.pinned (OpenSpec.ofChange centralFullestSpec)

/-- ITS FALSE NEIGHBOUR: 'it returns false'. Refute it at one input. -/
def centralFullestWrong : ChangeSpec := { name := "centralFullest", fn := fun _ => fun
  | [d1, d2] => { results := [.lit (.bool false)], args := [d1, d2] }
  | _ => none }
def CentralFullestWrongFalsely : Prop := centralFullestRow.holds Try.pinned (OpenSpec.ofChange centralFullestWrong)

/-- 'freeholdlaw07.CentralFew': WHATEVER THE INPUT: true; the input reads as it did. -/
def centralFewSpec : ChangeSpec := { name := "centralFew", fn := fun _ => fun
  | [d1, d2, d3] => { results := [.lit (.bool true)], args := [d1, d2, d3] }
  | _ => none }
def centralFewRow : OpenClaim := { program := "ytlmjelcnldlagaa", sum := "7a3293c374ac281f1fd347cf8ce2bb9463b7a9f064cb6f73b6e57a3ab1ae4a9a", func := "freehold/freeholdlaw07.CentralFew", spec := "centralFew", inPlace := ["slices.overlaps[freehold/central.entry]"], unfollowed := true, recurses := true, apart := false }
def CentralFewSaid : Prop := centralFewRow.holds Try.pinned (OpenSpec.ofChange centralFewSpec)

/-- ITS FALSE NEIGHBOUR: 'it returns false'. Refute it at one input. -/
def centralFewWrong : ChangeSpec := { name := "centralFew", fn := fun _ => fun
  | [d1, d2, d3] => { results := [.lit (.bool false)], args := [d1, d2, d3] }
  | _ => none }
def CentralFewWrongFalsely : Prop := centralFewRow.holds Try.pinned (OpenSpec.ofChange centralFewWrong)

/-- 'freeholdlaw07.CentralOnce': WHATEVER THE INPUT: true; the input reads as it did. -/
def centralOnceSpec : ChangeSpec := { name := "centralOnce", fn := fun _ => fun
  | [d1, d2] => { results := [.lit (.bool true)], args := [d1, d2] }
  | _ => none }
def centralOnceRow : OpenClaim := { program := "ytlmjelcnldlagaa", sum := "7a3293c374ac281f1fd347cf8ce2bb9463b7a9f064cb6f73b6e57a3ab1ae4a9a", func := "freehold/freeholdlaw07.CentralOnce", spec := "centralOnce", inPlace := ["slices.overlaps[freehold/central.entry]"], unfollowed := true, recurses := true, apart := false }
def CentralOnceSaid : Prop := centralOnceRow.holds Try.pinned (OpenSpec.ofChange centralOnceSpec)

/-- ITS FALSE NEIGHBOUR: 'it returns false'. Refute it at one input. -/
def centralOnceWrong : ChangeSpec := { name := "centralOnce", fn := fun _ => fun
  | [d1, d2] => { results := [.lit (.bool false)], args := [d1, d2] }
  | _ => none }
def CentralOnceWrongFalsely : Prop := centralOnceRow.holds Try.pinned (OpenSpec.ofChange centralOnceWrong)

/-- 'freeholdlaw07.CentralOneByOne': WHATEVER THE INPUT: true; the input reads as it did. -/
def centralOneByOneSpec : ChangeSpec := { name := "centralOneByOne", fn := fun _ => fun
  | [d1, d2, d3, d4] => { results := [.lit (.bool true)], args := [d1, d2, d3, d4] }
  | _ => none }
def centralOneByOneRow : OpenClaim := { program := "ytlmjelcnldlagaa", sum := "7a3293c374ac281f1fd347cf8ce2bb9463b7a9f064cb6f73b6e57a3ab1ae4a9a", func := "freehold/freeholdlaw07.CentralOneByOne", spec := "centralOneByOne", inPlace := ["slices.overlaps[freehold/central.entry]"], unfollowed := true, recurses := true, apart := false }
def CentralOneByOneSaid : Prop := centralOneByOneRow.holds Try.pinned (OpenSpec.ofChange centralOneByOneSpec)

/-- ITS FALSE NEIGHBOUR: 'it returns false'. Refute it at one input. -/
def centralOneByOneWrong : ChangeSpec := { name := "centralOneByOne", fn := fun _ => fun
  | [d1, d2, d3, d4] => { results := [.lit (.bool false)], args := [d1, d2, d3, d4] }
  | _ => none }
def CentralOneByOneWrongFalsely : Prop := centralOneByOneRow.holds Try.pinned (OpenSpec.ofChange centralOneByOneWrong)

/-- 'freeholdlaw07.CentralOrder': WHATEVER THE INPUT: true; the input reads as it did. -/
def centralOrderSpec : ChangeSpec := { name := "centralOrder", fn := fun _ => fun
  | [d1, d2, d3, d4] => { results := [.lit (.bool true)], args := [d1, d2, d3, d4] }
  | _ => none }
def centralOrderRow : OpenClaim := { program := "ytlmjelcnldlagaa", sum := "7a3293c374ac281f1fd347cf8ce2bb9463b7a9f064cb6f73b6e57a3ab1ae4a9a", func := "freehold/freeholdlaw07.CentralOrder", spec := "centralOrder", inPlace := ["slices.overlaps[freehold/central.entry]"], unfollowed := true, recurses := true, apart := false }
def CentralOrderSaid : Prop := centralOrderRow.holds Try.pinned (OpenSpec.ofChange centralOrderSpec)

/-- ITS FALSE NEIGHBOUR: 'it returns false'. Refute it at one input. -/
def centralOrderWrong : ChangeSpec := { name := "centralOrder", fn := fun _ => fun
  | [d1, d2, d3, d4] => { results := [.lit (.bool false)], args := [d1, d2, d3, d4] }
  | _ => none }
def CentralOrderWrongFalsely : Prop := centralOrderRow.holds Try.pinned (OpenSpec.ofChange centralOrderWrong)

/-- 'freeholdlaw07.CentralRefuses': WHATEVER THE INPUT: true; the input reads as it did. -/
def centralRefusesSpec : ChangeSpec := { name := "centralRefuses", fn := fun _ => fun
  | [d1, d2, d3] => { results := [.lit (.bool true)], args := [d1, d2, d3] }
  | _ => none }
def centralRefusesRow : OpenClaim := { program := "ytlmjelcnldlagaa", sum := "7a3293c374ac281f1fd347cf8ce2bb9463b7a9f064cb6f73b6e57a3ab1ae4a9a", func := "freehold/freeholdlaw07.CentralRefuses", spec := "centralRefuses", inPlace := ["slices.overlaps[freehold/central.entry]"], unfollowed := true, recurses := true, apart := false }
def CentralRefusesSaid : Prop := centralRefusesRow.holds Try.pinned (OpenSpec.ofChange centralRefusesSpec)

/-- ITS FALSE NEIGHBOUR: 'it returns false'. Refute it at one input. -/
def centralRefusesWrong : ChangeSpec := { name := "centralRefuses", fn := fun _ => fun
  | [d1, d2, d3] => { results := [.lit (.bool false)], args := [d1, d2, d3] }
  | _ => none }
def CentralRefusesWrongFalsely : Prop := centralRefusesRow.holds Try.pinned (OpenSpec.ofChange centralRefusesWrong)

/-- 'freeholdlaw07.CentralPlays': WHATEVER THE INPUT: true; the input reads as it did. -/
def centralPlaysSpec : ChangeSpec := { name := "centralPlays", fn := fun _ => fun
  | [d1, d2] => { results := [.lit (.bool true)], args := [d1, d2] }
  | _ => none }
def centralPlaysRow : OpenClaim := { program := "ytlmjelcnldlagaa", sum := "7a3293c374ac281f1fd347cf8ce2bb9463b7a9f064cb6f73b6e57a3ab1ae4a9a", func := "freehold/freeholdlaw07.CentralPlays", spec := "centralPlays", inPlace := ["slices.overlaps[freehold/central.entry]"], unfollowed := true, recurses := true, apart := false }
def CentralPlaysSaid : Prop := centralPlaysRow.holds Try.pinned (OpenSpec.ofChange centralPlaysSpec)

/-- ITS FALSE NEIGHBOUR: 'it returns false'. Refute it at one input. -/
def centralPlaysWrong : ChangeSpec := { name := "centralPlays", fn := fun _ => fun
  | [d1, d2] => { results := [.lit (.bool false)], args := [d1, d2] }
  | _ => none }
def CentralPlaysWrongFalsely : Prop := centralPlaysRow.holds Try.pinned (OpenSpec.ofChange centralPlaysWrong)

/-- 'freeholdlaw07.CentralNone': WHATEVER THE INPUT: true; the input reads as it did. -/
def centralNoneSpec : ChangeSpec := { name := "centralNone", fn := fun _ => fun
  | [d] => { results := [.lit (.bool true)], args := [d] }
  | _ => none }
def centralNoneRow : OpenClaim := { program := "ytlmjelcnldlagaa", sum := "7a3293c374ac281f1fd347cf8ce2bb9463b7a9f064cb6f73b6e57a3ab1ae4a9a", func := "freehold/freeholdlaw07.CentralNone", spec := "centralNone", inPlace := ["slices.overlaps[freehold/central.entry]"], unfollowed := true, recurses := true, apart := false }
def CentralNoneSaid : Prop := centralNoneRow.holds Try.pinned (OpenSpec.ofChange centralNoneSpec)

/-- ITS FALSE NEIGHBOUR: 'it returns false'. Refute it at one input. -/
def centralNoneWrong : ChangeSpec := { name := "centralNone", fn := fun _ => fun
  | [d] => { results := [.lit (.bool false)], args := [d] }
  | _ => none }
def CentralNoneWrongFalsely : Prop := centralNoneRow.holds Try.pinned (OpenSpec.ofChange centralNoneWrong)

/-- 'freeholdlaw07.CentralClones': WHATEVER THE INPUT: true; the input reads as it did. -/
def centralClonesSpec : ChangeSpec := { name := "centralClones", fn := fun _ => fun
  | [d1, d2, d3, d4] => { results := [.lit (.bool true)], args := [d1, d2, d3, d4] }
  | _ => none }
def centralClonesRow : OpenClaim := { program := "ytlmjelcnldlagaa", sum := "7a3293c374ac281f1fd347cf8ce2bb9463b7a9f064cb6f73b6e57a3ab1ae4a9a", func := "freehold/freeholdlaw07.CentralClones", spec := "centralClones", inPlace := ["slices.overlaps[freehold/central.entry]"], unfollowed := true, recurses := true, apart := false }
def CentralClonesSaid : Prop := centralClonesRow.holds Try.pinned (OpenSpec.ofChange centralClonesSpec)

/-- ITS FALSE NEIGHBOUR: 'it returns false'. Refute it at one input. -/
def centralClonesWrong : ChangeSpec := { name := "centralClones", fn := fun _ => fun
  | [d1, d2, d3, d4] => { results := [.lit (.bool false)], args := [d1, d2, d3, d4] }
  | _ => none }
def CentralClonesWrongFalsely : Prop := centralClonesRow.holds Try.pinned (OpenSpec.ofChange centralClonesWrong)

/- THE SECOND FORM. 'bulk': how many values and letters a reading holds, each counted each time it is reached (what is shared counts as often as it is met; a slice's spare places count too). A statement '..UptoSaid' is the law's where the arguments, and the package variables that the reading takes, are together of bulk at most 1048576: NARROWER than '..Said'. Prove '..Said' where nothing that the law and all that it calls make is longer than what came in: it says more and counts as full. Else prove '..UptoSaid'. A law counts once. -/
mutual
def uptoBulk {H : Type} : DataW H → Nat
  | .lit (.string bytes) => bytes.length + 1
  | .lit _ => 1
  | .nil => 1
  | .ptr d => uptoBulk d + 1
  | .slice elems spare => uptoBulkAll elems + uptoBulkAll spare + 1
  | .agg parts => uptoBulkAll parts + 1
  | .iface _ d => uptoBulk d + 1
  | .map entries => uptoBulkEntries entries + 1
  | .held _ => 1
def uptoBulkAll {H : Type} : List (DataW H) → Nat
  | [] => 0
  | d :: r => uptoBulk d + uptoBulkAll r
def uptoBulkEntries {H : Type} : List (Lit × DataW H) → Nat
  | [] => 0
  | x :: r => uptoBulkEntry x + uptoBulkEntries r
def uptoBulkEntry {H : Type} : Lit × DataW H → Nat
  | (.string bytes, d) => bytes.length + uptoBulk d + 1
  | (_, d) => uptoBulk d + 1
 end
def uptoSmall : (H : Type) → List (DataW H) → Bool := fun _ ds => decide (uptoBulkAll ds ≤ 1048576)
def OpenSpec.upto (s : _root_.Go.ChangeSpec) : _root_.Go.OpenSpec := { _root_.Go.OpenSpec.ofChange s with cond := some uptoSmall }

/-- 'freeholdlaw07.CentralSwept', WHERE WHAT IT READS IS OF BULK AT MOST 1048576: true; the input reads as it did. -/
def centralSweptUptoRow : OpenClaim := { program := "ytlmjelcnldlagaa", sum := "7a3293c374ac281f1fd347cf8ce2bb9463b7a9f064cb6f73b6e57a3ab1ae4a9a", func := "freehold/freeholdlaw07.CentralSwept", spec := "centralSwept", inPlace := ["slices.overlaps[freehold/central.entry]"], unfollowed := true, recurses := true, apart := false, narrowed := true }
def CentralSweptUptoSaid : Prop := centralSweptUptoRow.holds Try.pinned (OpenSpec.upto centralSweptSpec)

/-- 'freeholdlaw07.CentralFullest', WHERE WHAT IT READS IS OF BULK AT MOST 1048576: true; the input reads as it did. -/
def centralFullestUptoRow : OpenClaim := { program := "ytlmjelcnldlagaa", sum := "7a3293c374ac281f1fd347cf8ce2bb9463b7a9f064cb6f73b6e57a3ab1ae4a9a", func := "freehold/freeholdlaw07.CentralFullest", spec := "centralFullest", inPlace := ["slices.overlaps[freehold/central.entry]"], unfollowed := true, recurses := true, apart := false, narrowed := true }
def CentralFullestUptoSaid : Prop := centralFullestUptoRow.holds Try.pinned (OpenSpec.upto centralFullestSpec)

/-- 'freeholdlaw07.CentralFew', WHERE WHAT IT READS IS OF BULK AT MOST 1048576: true; the input reads as it did. -/
def centralFewUptoRow : OpenClaim := { program := "ytlmjelcnldlagaa", sum := "7a3293c374ac281f1fd347cf8ce2bb9463b7a9f064cb6f73b6e57a3ab1ae4a9a", func := "freehold/freeholdlaw07.CentralFew", spec := "centralFew", inPlace := ["slices.overlaps[freehold/central.entry]"], unfollowed := true, recurses := true, apart := false, narrowed := true }
def CentralFewUptoSaid : Prop := centralFewUptoRow.holds Try.pinned (OpenSpec.upto centralFewSpec)

/-- 'freeholdlaw07.CentralOnce', WHERE WHAT IT READS IS OF BULK AT MOST 1048576: true; the input reads as it did. -/
def centralOnceUptoRow : OpenClaim := { program := "ytlmjelcnldlagaa", sum := "7a3293c374ac281f1fd347cf8ce2bb9463b7a9f064cb6f73b6e57a3ab1ae4a9a", func := "freehold/freeholdlaw07.CentralOnce", spec := "centralOnce", inPlace := ["slices.overlaps[freehold/central.entry]"], unfollowed := true, recurses := true, apart := false, narrowed := true }
def CentralOnceUptoSaid : Prop := centralOnceUptoRow.holds Try.pinned (OpenSpec.upto centralOnceSpec)

/-- 'freeholdlaw07.CentralOneByOne', WHERE WHAT IT READS IS OF BULK AT MOST 1048576: true; the input reads as it did. -/
def centralOneByOneUptoRow : OpenClaim := { program := "ytlmjelcnldlagaa", sum := "7a3293c374ac281f1fd347cf8ce2bb9463b7a9f064cb6f73b6e57a3ab1ae4a9a", func := "freehold/freeholdlaw07.CentralOneByOne", spec := "centralOneByOne", inPlace := ["slices.overlaps[freehold/central.entry]"], unfollowed := true, recurses := true, apart := false, narrowed := true }
def CentralOneByOneUptoSaid : Prop := centralOneByOneUptoRow.holds Try.pinned (OpenSpec.upto centralOneByOneSpec)

/-- 'freeholdlaw07.CentralOrder', WHERE WHAT IT READS IS OF BULK AT MOST 1048576: true; the input reads as it did. -/
def centralOrderUptoRow : OpenClaim := { program := "ytlmjelcnldlagaa", sum := "7a3293c374ac281f1fd347cf8ce2bb9463b7a9f064cb6f73b6e57a3ab1ae4a9a", func := "freehold/freeholdlaw07.CentralOrder", spec := "centralOrder", inPlace := ["slices.overlaps[freehold/central.entry]"], unfollowed := true, recurses := true, apart := false, narrowed := true }
def CentralOrderUptoSaid : Prop := centralOrderUptoRow.holds Try.pinned (OpenSpec.upto centralOrderSpec)

/-- 'freeholdlaw07.CentralRefuses', WHERE WHAT IT READS IS OF BULK AT MOST 1048576: true; the input reads as it did. -/
def centralRefusesUptoRow : OpenClaim := { program := "ytlmjelcnldlagaa", sum := "7a3293c374ac281f1fd347cf8ce2bb9463b7a9f064cb6f73b6e57a3ab1ae4a9a", func := "freehold/freeholdlaw07.CentralRefuses", spec := "centralRefuses", inPlace := ["slices.overlaps[freehold/central.entry]"], unfollowed := true, recurses := true, apart := false, narrowed := true }
def CentralRefusesUptoSaid : Prop := centralRefusesUptoRow.holds Try.pinned (OpenSpec.upto centralRefusesSpec)

/-- 'freeholdlaw07.CentralPlays', WHERE WHAT IT READS IS OF BULK AT MOST 1048576: true; the input reads as it did. -/
def centralPlaysUptoRow : OpenClaim := { program := "ytlmjelcnldlagaa", sum := "7a3293c374ac281f1fd347cf8ce2bb9463b7a9f064cb6f73b6e57a3ab1ae4a9a", func := "freehold/freeholdlaw07.CentralPlays", spec := "centralPlays", inPlace := ["slices.overlaps[freehold/central.entry]"], unfollowed := true, recurses := true, apart := false, narrowed := true }
def CentralPlaysUptoSaid : Prop := centralPlaysUptoRow.holds Try.pinned (OpenSpec.upto centralPlaysSpec)

/-- 'freeholdlaw07.CentralNone', WHERE WHAT IT READS IS OF BULK AT MOST 1048576: true; the input reads as it did. -/
def centralNoneUptoRow : OpenClaim := { program := "ytlmjelcnldlagaa", sum := "7a3293c374ac281f1fd347cf8ce2bb9463b7a9f064cb6f73b6e57a3ab1ae4a9a", func := "freehold/freeholdlaw07.CentralNone", spec := "centralNone", inPlace := ["slices.overlaps[freehold/central.entry]"], unfollowed := true, recurses := true, apart := false, narrowed := true }
def CentralNoneUptoSaid : Prop := centralNoneUptoRow.holds Try.pinned (OpenSpec.upto centralNoneSpec)

/-- 'freeholdlaw07.CentralClones', WHERE WHAT IT READS IS OF BULK AT MOST 1048576: true; the input reads as it did. -/
def centralClonesUptoRow : OpenClaim := { program := "ytlmjelcnldlagaa", sum := "7a3293c374ac281f1fd347cf8ce2bb9463b7a9f064cb6f73b6e57a3ab1ae4a9a", func := "freehold/freeholdlaw07.CentralClones", spec := "centralClones", inPlace := ["slices.overlaps[freehold/central.entry]"], unfollowed := true, recurses := true, apart := false, narrowed := true }
def CentralClonesUptoSaid : Prop := centralClonesUptoRow.holds Try.pinned (OpenSpec.upto centralClonesSpec)

end Rows
end Go.Proofs.Ytlmjelcnldlagaa

/-
  No cell of these rows narrows 'for every input' (looked for: loops, veiled, ifaces, maps, wideKeys, modest, calm, conditions, laid).
  DERIVED. THE GIVEN ROWS OF THIS SEAT. 7 by the template 'for every input the law returns true; each argument reads behind the call as it read before'; 0 by the template 'total and deterministic' (their statements: YtnflfolonfmchaaTotals.lean).
  GIVEN WITH THE SEED: the statements are not yours to turn. If you find one false, say at which input.
  Laid BY PROGRAM, IN A SANDBOX (cutbox-rows.mjs): the forced cells as the released guide's own fill.sh prints them over the translation 8997ef2d9550211e… (all of the seat's roots in one cut). By AI agents, Wed Nov 11 2026. No macro, syntax, notation, axiom, sorry.
-/
import Derived.Test.YtnflfolonfmchaaChecked
import GoSem.Claim
import GoSem.ClaimJoined
import GoSem.ClaimMapViews
import Derived.JoinedTies
import Derived.KernelRfl
namespace Go.Proofs.Ytnflfolonfmchaa
/- THE CELL 'sum', in the pinned program and in every row, IS THE sha256 OF THE DUMP (.gsa) THAT YtnflfolonfmchaaProg.lean LOADS. Nothing in Lean hashes anything: it is a label: what it is worth is what the hold of that sum in a sandbox is worth. -/
noncomputable def Try.pinned : Pinned := { name := "ytnflfolonfmchaa", sum := "8997ef2d9550211e7651fe562981383fe431c35b85599746ebed149fc5ff3c92", checked := Try.checked }
namespace Rows
def none {H : Type} : Left H := { results := [], args := [] }

/-- 'freeholdlaw06.SpanApart': WHATEVER THE INPUT: true; the input reads as it did. -/
def spanApartSpec : ChangeSpec := { name := "spanApart", fn := fun _ => fun
  | [d1, d2, d3, d4] => { results := [.lit (.bool true)], args := [d1, d2, d3, d4] }
  | _ => none }
def spanApartRow : OpenClaim := { program := "ytnflfolonfmchaa", sum := "8997ef2d9550211e7651fe562981383fe431c35b85599746ebed149fc5ff3c92", func := "freehold/freeholdlaw06.SpanApart", spec := "spanApart", apart := false }
def SpanApartSaid : Prop := spanApartRow.holds Try.pinned (OpenSpec.ofChange spanApartSpec)

/-- ITS FALSE NEIGHBOUR: 'it returns false'. Refute it at one input. -/
def spanApartWrong : ChangeSpec := { name := "spanApart", fn := fun _ => fun
  | [d1, d2, d3, d4] => { results := [.lit (.bool false)], args := [d1, d2, d3, d4] }
  | _ => none }
def SpanApartWrongFalsely : Prop := spanApartRow.holds Try.pinned (OpenSpec.ofChange spanApartWrong)

/-- 'freeholdlaw06.SpanRefuses': WHATEVER THE INPUT: true; the input reads as it did. -/
def spanRefusesSpec : ChangeSpec := { name := "spanRefuses", fn := fun _ => fun
  | [d1, d2, d3, d4] => { results := [.lit (.bool true)], args := [d1, d2, d3, d4] }
  | _ => none }
def spanRefusesRow : OpenClaim := { program := "ytnflfolonfmchaa", sum := "8997ef2d9550211e7651fe562981383fe431c35b85599746ebed149fc5ff3c92", func := "freehold/freeholdlaw06.SpanRefuses", spec := "spanRefuses", apart := false }
def SpanRefusesSaid : Prop := spanRefusesRow.holds Try.pinned (OpenSpec.ofChange spanRefusesSpec)

/-- ITS FALSE NEIGHBOUR: 'it returns false'. Refute it at one input. -/
def spanRefusesWrong : ChangeSpec := { name := "spanRefuses", fn := fun _ => fun
  | [d1, d2, d3, d4] => { results := [.lit (.bool false)], args := [d1, d2, d3, d4] }
  | _ => none }
def SpanRefusesWrongFalsely : Prop := spanRefusesRow.holds Try.pinned (OpenSpec.ofChange spanRefusesWrong)

/-- 'freeholdlaw06.SpanTakes': WHATEVER THE INPUT: true; the input reads as it did. -/
def spanTakesSpec : ChangeSpec := { name := "spanTakes", fn := fun _ => fun
  | [d1, d2, d3] => { results := [.lit (.bool true)], args := [d1, d2, d3] }
  | _ => none }
def spanTakesRow : OpenClaim := { program := "ytnflfolonfmchaa", sum := "8997ef2d9550211e7651fe562981383fe431c35b85599746ebed149fc5ff3c92", func := "freehold/freeholdlaw06.SpanTakes", spec := "spanTakes", apart := false }
def SpanTakesSaid : Prop := spanTakesRow.holds Try.pinned (OpenSpec.ofChange spanTakesSpec)

/-- ITS FALSE NEIGHBOUR: 'it returns false'. Refute it at one input. -/
def spanTakesWrong : ChangeSpec := { name := "spanTakes", fn := fun _ => fun
  | [d1, d2, d3] => { results := [.lit (.bool false)], args := [d1, d2, d3] }
  | _ => none }
def SpanTakesWrongFalsely : Prop := spanTakesRow.holds Try.pinned (OpenSpec.ofChange spanTakesWrong)

/-- 'freeholdlaw06.SpanBack': WHATEVER THE INPUT: true; the input reads as it did. -/
def spanBackSpec : ChangeSpec := { name := "spanBack", fn := fun _ => fun
  | [d1, d2, d3, d4] => { results := [.lit (.bool true)], args := [d1, d2, d3, d4] }
  | _ => none }
def spanBackRow : OpenClaim := { program := "ytnflfolonfmchaa", sum := "8997ef2d9550211e7651fe562981383fe431c35b85599746ebed149fc5ff3c92", func := "freehold/freeholdlaw06.SpanBack", spec := "spanBack", apart := false }
def SpanBackSaid : Prop := spanBackRow.holds Try.pinned (OpenSpec.ofChange spanBackSpec)

/-- ITS FALSE NEIGHBOUR: 'it returns false'. Refute it at one input. -/
def spanBackWrong : ChangeSpec := { name := "spanBack", fn := fun _ => fun
  | [d1, d2, d3, d4] => { results := [.lit (.bool false)], args := [d1, d2, d3, d4] }
  | _ => none }
def SpanBackWrongFalsely : Prop := spanBackRow.holds Try.pinned (OpenSpec.ofChange spanBackWrong)

/-- 'freeholdlaw06.SpanClones': WHATEVER THE INPUT: true; the input reads as it did. -/
def spanClonesSpec : ChangeSpec := { name := "spanClones", fn := fun _ => fun
  | [d1, d2, d3, d4, d5] => { results := [.lit (.bool true)], args := [d1, d2, d3, d4, d5] }
  | _ => none }
def spanClonesRow : OpenClaim := { program := "ytnflfolonfmchaa", sum := "8997ef2d9550211e7651fe562981383fe431c35b85599746ebed149fc5ff3c92", func := "freehold/freeholdlaw06.SpanClones", spec := "spanClones", apart := false }
def SpanClonesSaid : Prop := spanClonesRow.holds Try.pinned (OpenSpec.ofChange spanClonesSpec)

/-- ITS FALSE NEIGHBOUR: 'it returns false'. Refute it at one input. -/
def spanClonesWrong : ChangeSpec := { name := "spanClones", fn := fun _ => fun
  | [d1, d2, d3, d4, d5] => { results := [.lit (.bool false)], args := [d1, d2, d3, d4, d5] }
  | _ => none }
def SpanClonesWrongFalsely : Prop := spanClonesRow.holds Try.pinned (OpenSpec.ofChange spanClonesWrong)

/-- 'freeholdlaw06.SpanPlays': WHATEVER THE INPUT: true; the input reads as it did. -/
def spanPlaysSpec : ChangeSpec := { name := "spanPlays", fn := fun _ => fun
  | [d1, d2, d3] => { results := [.lit (.bool true)], args := [d1, d2, d3] }
  | _ => none }
def spanPlaysRow : OpenClaim := { program := "ytnflfolonfmchaa", sum := "8997ef2d9550211e7651fe562981383fe431c35b85599746ebed149fc5ff3c92", func := "freehold/freeholdlaw06.SpanPlays", spec := "spanPlays", apart := false }
def SpanPlaysSaid : Prop := spanPlaysRow.holds Try.pinned (OpenSpec.ofChange spanPlaysSpec)

/-- ITS FALSE NEIGHBOUR: 'it returns false'. Refute it at one input. -/
def spanPlaysWrong : ChangeSpec := { name := "spanPlays", fn := fun _ => fun
  | [d1, d2, d3] => { results := [.lit (.bool false)], args := [d1, d2, d3] }
  | _ => none }
def SpanPlaysWrongFalsely : Prop := spanPlaysRow.holds Try.pinned (OpenSpec.ofChange spanPlaysWrong)

/-- 'freeholdlaw06.SpanNone': WHATEVER THE INPUT: true; the input reads as it did. -/
def spanNoneSpec : ChangeSpec := { name := "spanNone", fn := fun _ => fun
  | [d] => { results := [.lit (.bool true)], args := [d] }
  | _ => none }
def spanNoneRow : OpenClaim := { program := "ytnflfolonfmchaa", sum := "8997ef2d9550211e7651fe562981383fe431c35b85599746ebed149fc5ff3c92", func := "freehold/freeholdlaw06.SpanNone", spec := "spanNone", apart := false }
def SpanNoneSaid : Prop := spanNoneRow.holds Try.pinned (OpenSpec.ofChange spanNoneSpec)

/-- ITS FALSE NEIGHBOUR: 'it returns false'. Refute it at one input. -/
def spanNoneWrong : ChangeSpec := { name := "spanNone", fn := fun _ => fun
  | [d] => { results := [.lit (.bool false)], args := [d] }
  | _ => none }
def SpanNoneWrongFalsely : Prop := spanNoneRow.holds Try.pinned (OpenSpec.ofChange spanNoneWrong)

/- THE SECOND FORM. 'bulk': how many values and letters a reading holds, each counted each time it is reached (what is shared counts as often as it is met; a slice's spare places count too). A statement '..UptoSaid' is the law's where the arguments, and the package variables that the reading takes, are together of bulk at most 1048576: NARROWER than '..Said'. Prove '..Said' where nothing that the law and all that it calls make is longer than what came in: it says more and counts as full. Else prove '..UptoSaid'. A law counts once. -/
mutual
def uptoBulk {H : Type} : DataW H → Nat
  | .lit (.string bytes) => bytes.length + 1
  | .lit _ => 1
  | .nil => 1
  | .ptr d => uptoBulk d + 1
  | .slice elems spare => uptoBulkAll elems + uptoBulkAll spare + 1
  | .agg parts => uptoBulkAll parts + 1
  | .iface _ d => uptoBulk d + 1
  | .map entries => uptoBulkEntries entries + 1
  | .held _ => 1
def uptoBulkAll {H : Type} : List (DataW H) → Nat
  | [] => 0
  | d :: r => uptoBulk d + uptoBulkAll r
def uptoBulkEntries {H : Type} : List (Lit × DataW H) → Nat
  | [] => 0
  | x :: r => uptoBulkEntry x + uptoBulkEntries r
def uptoBulkEntry {H : Type} : Lit × DataW H → Nat
  | (.string bytes, d) => bytes.length + uptoBulk d + 1
  | (_, d) => uptoBulk d + 1
 end
def uptoSmall : (H : Type) → List (DataW H) → Bool := fun _ ds => decide (uptoBulkAll ds ≤ 1048576)
def OpenSpec.upto (s : _root_.Go.ChangeSpec) : _root_.Go.OpenSpec := { _root_.Go.OpenSpec.ofChange s with cond := some uptoSmall }

/-- 'freeholdlaw06.SpanApart', WHERE WHAT IT READS IS OF BULK AT MOST 1048576: true; the input reads as it did. -/
def spanApartUptoRow : OpenClaim := { program := "ytnflfolonfmchaa", sum := "8997ef2d9550211e7651fe562981383fe431c35b85599746ebed149fc5ff3c92", func := "freehold/freeholdlaw06.SpanApart", spec := "spanApart", apart := false, narrowed := true }
def SpanApartUptoSaid : Prop := spanApartUptoRow.holds Try.pinned (OpenSpec.upto spanApartSpec)

/-- 'freeholdlaw06.SpanRefuses', WHERE WHAT IT READS IS OF BULK AT MOST 1048576: true; the input reads as it did. -/
def spanRefusesUptoRow : OpenClaim := { program := "ytnflfolonfmchaa", sum := "8997ef2d9550211e7651fe562981383fe431c35b85599746ebed149fc5ff3c92", func := "freehold/freeholdlaw06.SpanRefuses", spec := "spanRefuses", apart := false, narrowed := true }
def SpanRefusesUptoSaid : Prop := spanRefusesUptoRow.holds Try.pinned (OpenSpec.upto spanRefusesSpec)

/-- 'freeholdlaw06.SpanTakes', WHERE WHAT IT READS IS OF BULK AT MOST 1048576: true; the input reads as it did. -/
def spanTakesUptoRow : OpenClaim := { program := "ytnflfolonfmchaa", sum := "8997ef2d9550211e7651fe562981383fe431c35b85599746ebed149fc5ff3c92", func := "freehold/freeholdlaw06.SpanTakes", spec := "spanTakes", apart := false, narrowed := true }
def SpanTakesUptoSaid : Prop := spanTakesUptoRow.holds Try.pinned (OpenSpec.upto spanTakesSpec)

/-- 'freeholdlaw06.SpanBack', WHERE WHAT IT READS IS OF BULK AT MOST 1048576: true; the input reads as it did. -/
def spanBackUptoRow : OpenClaim := { program := "ytnflfolonfmchaa", sum := "8997ef2d9550211e7651fe562981383fe431c35b85599746ebed149fc5ff3c92", func := "freehold/freeholdlaw06.SpanBack", spec := "spanBack", apart := false, narrowed := true }
def SpanBackUptoSaid : Prop := spanBackUptoRow.holds Try.pinned (OpenSpec.upto spanBackSpec)

/-- 'freeholdlaw06.SpanClones', WHERE WHAT IT READS IS OF BULK AT MOST 1048576: true; the input reads as it did. -/
def spanClonesUptoRow : OpenClaim := { program := "ytnflfolonfmchaa", sum := "8997ef2d9550211e7651fe562981383fe431c35b85599746ebed149fc5ff3c92", func := "freehold/freeholdlaw06.SpanClones", spec := "spanClones", apart := false, narrowed := true }
def SpanClonesUptoSaid : Prop := spanClonesUptoRow.holds Try.pinned (OpenSpec.upto spanClonesSpec)

/-- 'freeholdlaw06.SpanPlays', WHERE WHAT IT READS IS OF BULK AT MOST 1048576: true; the input reads as it did. -/
def spanPlaysUptoRow : OpenClaim := { program := "ytnflfolonfmchaa", sum := "8997ef2d9550211e7651fe562981383fe431c35b85599746ebed149fc5ff3c92", func := "freehold/freeholdlaw06.SpanPlays", spec := "spanPlays", apart := false, narrowed := true }
def SpanPlaysUptoSaid : Prop := spanPlaysUptoRow.holds Try.pinned (OpenSpec.upto spanPlaysSpec)

/-- 'freeholdlaw06.SpanNone', WHERE WHAT IT READS IS OF BULK AT MOST 1048576: true; the input reads as it did. -/
def spanNoneUptoRow : OpenClaim := { program := "ytnflfolonfmchaa", sum := "8997ef2d9550211e7651fe562981383fe431c35b85599746ebed149fc5ff3c92", func := "freehold/freeholdlaw06.SpanNone", spec := "spanNone", apart := false, narrowed := true }
def SpanNoneUptoSaid : Prop := spanNoneUptoRow.holds Try.pinned (OpenSpec.upto spanNoneSpec)

end Rows
end Go.Proofs.Ytnflfolonfmchaa

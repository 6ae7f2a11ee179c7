/-
  No cell of these rows narrows 'for every input' (looked for: loops, veiled, ifaces, maps, wideKeys, modest, calm, conditions, laid).
  DERIVED. THE GIVEN ROWS OF THIS SEAT. 11 by the template 'for every input the law returns true; each argument reads behind the call as it read before'; 0 by the template 'total and deterministic' (their statements: YtgicapdiiknbiaaTotals.lean).
  GIVEN WITH THE SEED: the statements are not yours to turn. If you find one false, say at which input.
  Laid BY PROGRAM, IN A SANDBOX (cutbox-rows.mjs): the forced cells as the released guide's own fill.sh prints them over the translation 288ff1fdc5c29c50… (all of the seat's roots in one cut). By AI agents, Wed Nov 11 2026. No macro, syntax, notation, axiom, sorry.
-/
import Derived.Test.YtgicapdiiknbiaaChecked
import GoSem.Claim
import GoSem.ClaimJoined
import GoSem.ClaimMapViews
import Derived.JoinedTies
import Derived.KernelRfl
namespace Go.Proofs.Ytgicapdiiknbiaa
/- THE CELL 'sum', in the pinned program and in every row, IS THE sha256 OF THE DUMP (.gsa) THAT YtgicapdiiknbiaaProg.lean LOADS. Nothing in Lean hashes anything: it is a label: what it is worth is what the hold of that sum in a sandbox is worth. -/
noncomputable def Try.pinned : Pinned := { name := "ytgicapdiiknbiaa", sum := "288ff1fdc5c29c50d945c802571d14a4b2ea57fbc9a3a090bf178805c6bbadfb", checked := Try.checked }
namespace Rows
def none {H : Type} : Left H := { results := [], args := [] }

/-- 'freeholdlaw01.SizesForms': WHATEVER THE INPUT: true; the input reads as it did. -/
def sizesFormsSpec : ChangeSpec := { name := "sizesForms", fn := fun _ => fun
  | [d1, d2] => { results := [.lit (.bool true)], args := [d1, d2] }
  | _ => none }
def sizesFormsRow : OpenClaim := { program := "ytgicapdiiknbiaa", sum := "288ff1fdc5c29c50d945c802571d14a4b2ea57fbc9a3a090bf178805c6bbadfb", func := "freehold/freeholdlaw01.SizesForms", spec := "sizesForms", unfollowed := true, recurses := true, apart := false }
def SizesFormsSaid : Prop := sizesFormsRow.holds Try.pinned (OpenSpec.ofChange sizesFormsSpec)

/-- ITS FALSE NEIGHBOUR: 'it returns false'. Refute it at one input. -/
def sizesFormsWrong : ChangeSpec := { name := "sizesForms", fn := fun _ => fun
  | [d1, d2] => { results := [.lit (.bool false)], args := [d1, d2] }
  | _ => none }
def SizesFormsWrongFalsely : Prop := sizesFormsRow.holds Try.pinned (OpenSpec.ofChange sizesFormsWrong)

/-- 'freeholdlaw01.SizesMakes': WHATEVER THE INPUT: true; the input reads as it did. -/
def sizesMakesSpec : ChangeSpec := { name := "sizesMakes", fn := fun _ => fun
  | [d] => { results := [.lit (.bool true)], args := [d] }
  | _ => none }
def sizesMakesRow : OpenClaim := { program := "ytgicapdiiknbiaa", sum := "288ff1fdc5c29c50d945c802571d14a4b2ea57fbc9a3a090bf178805c6bbadfb", func := "freehold/freeholdlaw01.SizesMakes", spec := "sizesMakes", unfollowed := true, recurses := true, apart := false }
def SizesMakesSaid : Prop := sizesMakesRow.holds Try.pinned (OpenSpec.ofChange sizesMakesSpec)

/-- ITS FALSE NEIGHBOUR: 'it returns false'. Refute it at one input. -/
def sizesMakesWrong : ChangeSpec := { name := "sizesMakes", fn := fun _ => fun
  | [d] => { results := [.lit (.bool false)], args := [d] }
  | _ => none }
def SizesMakesWrongFalsely : Prop := sizesMakesRow.holds Try.pinned (OpenSpec.ofChange sizesMakesWrong)

/-- 'freeholdlaw01.SizesFits': WHATEVER THE INPUT: true; the input reads as it did. -/
def sizesFitsSpec : ChangeSpec := { name := "sizesFits", fn := fun _ => fun
  | [d1, d2, d3] => { results := [.lit (.bool true)], args := [d1, d2, d3] }
  | _ => none }
def sizesFitsRow : OpenClaim := { program := "ytgicapdiiknbiaa", sum := "288ff1fdc5c29c50d945c802571d14a4b2ea57fbc9a3a090bf178805c6bbadfb", func := "freehold/freeholdlaw01.SizesFits", spec := "sizesFits", unfollowed := true, recurses := true, apart := false }
def SizesFitsSaid : Prop := sizesFitsRow.holds Try.pinned (OpenSpec.ofChange sizesFitsSpec)

/-- ITS FALSE NEIGHBOUR: 'it returns false'. Refute it at one input. -/
def sizesFitsWrong : ChangeSpec := { name := "sizesFits", fn := fun _ => fun
  | [d1, d2, d3] => { results := [.lit (.bool false)], args := [d1, d2, d3] }
  | _ => none }
def SizesFitsWrongFalsely : Prop := sizesFitsRow.holds Try.pinned (OpenSpec.ofChange sizesFitsWrong)

/-- 'freeholdlaw01.SizesMonotone': WHATEVER THE INPUT: true; the input reads as it did. -/
def sizesMonotoneSpec : ChangeSpec := { name := "sizesMonotone", fn := fun _ => fun
  | [d1, d2, d3, d4, d5] => { results := [.lit (.bool true)], args := [d1, d2, d3, d4, d5] }
  | _ => none }
def sizesMonotoneRow : OpenClaim := { program := "ytgicapdiiknbiaa", sum := "288ff1fdc5c29c50d945c802571d14a4b2ea57fbc9a3a090bf178805c6bbadfb", func := "freehold/freeholdlaw01.SizesMonotone", spec := "sizesMonotone", unfollowed := true, recurses := true, apart := false }
def SizesMonotoneSaid : Prop := sizesMonotoneRow.holds Try.pinned (OpenSpec.ofChange sizesMonotoneSpec)

/-- ITS FALSE NEIGHBOUR: 'it returns false'. Refute it at one input. -/
def sizesMonotoneWrong : ChangeSpec := { name := "sizesMonotone", fn := fun _ => fun
  | [d1, d2, d3, d4, d5] => { results := [.lit (.bool false)], args := [d1, d2, d3, d4, d5] }
  | _ => none }
def SizesMonotoneWrongFalsely : Prop := sizesMonotoneRow.holds Try.pinned (OpenSpec.ofChange sizesMonotoneWrong)

/-- 'freeholdlaw01.SizesMade': WHATEVER THE INPUT: true; the input reads as it did. -/
def sizesMadeSpec : ChangeSpec := { name := "sizesMade", fn := fun _ => fun
  | [d1, d2, d3] => { results := [.lit (.bool true)], args := [d1, d2, d3] }
  | _ => none }
def sizesMadeRow : OpenClaim := { program := "ytgicapdiiknbiaa", sum := "288ff1fdc5c29c50d945c802571d14a4b2ea57fbc9a3a090bf178805c6bbadfb", func := "freehold/freeholdlaw01.SizesMade", spec := "sizesMade", unfollowed := true, recurses := true, apart := false }
def SizesMadeSaid : Prop := sizesMadeRow.holds Try.pinned (OpenSpec.ofChange sizesMadeSpec)

/-- ITS FALSE NEIGHBOUR: 'it returns false'. Refute it at one input. -/
def sizesMadeWrong : ChangeSpec := { name := "sizesMade", fn := fun _ => fun
  | [d1, d2, d3] => { results := [.lit (.bool false)], args := [d1, d2, d3] }
  | _ => none }
def SizesMadeWrongFalsely : Prop := sizesMadeRow.holds Try.pinned (OpenSpec.ofChange sizesMadeWrong)

/-- 'freeholdlaw01.SizesTails': WHATEVER THE INPUT: true; the input reads as it did. -/
def sizesTailsSpec : ChangeSpec := { name := "sizesTails", fn := fun _ => fun
  | [d1, d2] => { results := [.lit (.bool true)], args := [d1, d2] }
  | _ => none }
def sizesTailsRow : OpenClaim := { program := "ytgicapdiiknbiaa", sum := "288ff1fdc5c29c50d945c802571d14a4b2ea57fbc9a3a090bf178805c6bbadfb", func := "freehold/freeholdlaw01.SizesTails", spec := "sizesTails", unfollowed := true, recurses := true, apart := false }
def SizesTailsSaid : Prop := sizesTailsRow.holds Try.pinned (OpenSpec.ofChange sizesTailsSpec)

/-- ITS FALSE NEIGHBOUR: 'it returns false'. Refute it at one input. -/
def sizesTailsWrong : ChangeSpec := { name := "sizesTails", fn := fun _ => fun
  | [d1, d2] => { results := [.lit (.bool false)], args := [d1, d2] }
  | _ => none }
def SizesTailsWrongFalsely : Prop := sizesTailsRow.holds Try.pinned (OpenSpec.ofChange sizesTailsWrong)

/-- 'freeholdlaw01.SizesDense': WHATEVER THE INPUT: true; the input reads as it did. -/
def sizesDenseSpec : ChangeSpec := { name := "sizesDense", fn := fun _ => fun
  | [d] => { results := [.lit (.bool true)], args := [d] }
  | _ => none }
def sizesDenseRow : OpenClaim := { program := "ytgicapdiiknbiaa", sum := "288ff1fdc5c29c50d945c802571d14a4b2ea57fbc9a3a090bf178805c6bbadfb", func := "freehold/freeholdlaw01.SizesDense", spec := "sizesDense", unfollowed := true, recurses := true, apart := false }
def SizesDenseSaid : Prop := sizesDenseRow.holds Try.pinned (OpenSpec.ofChange sizesDenseSpec)

/-- ITS FALSE NEIGHBOUR: 'it returns false'. Refute it at one input. -/
def sizesDenseWrong : ChangeSpec := { name := "sizesDense", fn := fun _ => fun
  | [d] => { results := [.lit (.bool false)], args := [d] }
  | _ => none }
def SizesDenseWrongFalsely : Prop := sizesDenseRow.holds Try.pinned (OpenSpec.ofChange sizesDenseWrong)

/-- 'freeholdlaw01.SizesFinds': WHATEVER THE INPUT: true; the input reads as it did. -/
def sizesFindsSpec : ChangeSpec := { name := "sizesFinds", fn := fun _ => fun
  | [d1, d2, d3] => { results := [.lit (.bool true)], args := [d1, d2, d3] }
  | _ => none }
def sizesFindsRow : OpenClaim := { program := "ytgicapdiiknbiaa", sum := "288ff1fdc5c29c50d945c802571d14a4b2ea57fbc9a3a090bf178805c6bbadfb", func := "freehold/freeholdlaw01.SizesFinds", spec := "sizesFinds", unfollowed := true, recurses := true, apart := false }
def SizesFindsSaid : Prop := sizesFindsRow.holds Try.pinned (OpenSpec.ofChange sizesFindsSpec)

/-- ITS FALSE NEIGHBOUR: 'it returns false'. Refute it at one input. -/
def sizesFindsWrong : ChangeSpec := { name := "sizesFinds", fn := fun _ => fun
  | [d1, d2, d3] => { results := [.lit (.bool false)], args := [d1, d2, d3] }
  | _ => none }
def SizesFindsWrongFalsely : Prop := sizesFindsRow.holds Try.pinned (OpenSpec.ofChange sizesFindsWrong)

/-- 'freeholdlaw01.SizesSlack': WHATEVER THE INPUT: true; the input reads as it did. -/
def sizesSlackSpec : ChangeSpec := { name := "sizesSlack", fn := fun _ => fun
  | [d1, d2] => { results := [.lit (.bool true)], args := [d1, d2] }
  | _ => none }
def sizesSlackRow : OpenClaim := { program := "ytgicapdiiknbiaa", sum := "288ff1fdc5c29c50d945c802571d14a4b2ea57fbc9a3a090bf178805c6bbadfb", func := "freehold/freeholdlaw01.SizesSlack", spec := "sizesSlack", unfollowed := true, recurses := true, apart := false }
def SizesSlackSaid : Prop := sizesSlackRow.holds Try.pinned (OpenSpec.ofChange sizesSlackSpec)

/-- ITS FALSE NEIGHBOUR: 'it returns false'. Refute it at one input. -/
def sizesSlackWrong : ChangeSpec := { name := "sizesSlack", fn := fun _ => fun
  | [d1, d2] => { results := [.lit (.bool false)], args := [d1, d2] }
  | _ => none }
def SizesSlackWrongFalsely : Prop := sizesSlackRow.holds Try.pinned (OpenSpec.ofChange sizesSlackWrong)

/-- 'freeholdlaw01.SizesWorsts': WHATEVER THE INPUT: true; the input reads as it did. -/
def sizesWorstsSpec : ChangeSpec := { name := "sizesWorsts", fn := fun _ => fun
  | [d] => { results := [.lit (.bool true)], args := [d] }
  | _ => none }
def sizesWorstsRow : OpenClaim := { program := "ytgicapdiiknbiaa", sum := "288ff1fdc5c29c50d945c802571d14a4b2ea57fbc9a3a090bf178805c6bbadfb", func := "freehold/freeholdlaw01.SizesWorsts", spec := "sizesWorsts", unfollowed := true, recurses := true, apart := false }
def SizesWorstsSaid : Prop := sizesWorstsRow.holds Try.pinned (OpenSpec.ofChange sizesWorstsSpec)

/-- ITS FALSE NEIGHBOUR: 'it returns false'. Refute it at one input. -/
def sizesWorstsWrong : ChangeSpec := { name := "sizesWorsts", fn := fun _ => fun
  | [d] => { results := [.lit (.bool false)], args := [d] }
  | _ => none }
def SizesWorstsWrongFalsely : Prop := sizesWorstsRow.holds Try.pinned (OpenSpec.ofChange sizesWorstsWrong)

/-- 'freeholdlaw01.SizesRatio': WHATEVER THE INPUT: true; the input reads as it did. -/
def sizesRatioSpec : ChangeSpec := { name := "sizesRatio", fn := fun _ => fun
  | [d1, d2] => { results := [.lit (.bool true)], args := [d1, d2] }
  | _ => none }
def sizesRatioRow : OpenClaim := { program := "ytgicapdiiknbiaa", sum := "288ff1fdc5c29c50d945c802571d14a4b2ea57fbc9a3a090bf178805c6bbadfb", func := "freehold/freeholdlaw01.SizesRatio", spec := "sizesRatio", unfollowed := true, recurses := true, apart := false }
def SizesRatioSaid : Prop := sizesRatioRow.holds Try.pinned (OpenSpec.ofChange sizesRatioSpec)

/-- ITS FALSE NEIGHBOUR: 'it returns false'. Refute it at one input. -/
def sizesRatioWrong : ChangeSpec := { name := "sizesRatio", fn := fun _ => fun
  | [d1, d2] => { results := [.lit (.bool false)], args := [d1, d2] }
  | _ => none }
def SizesRatioWrongFalsely : Prop := sizesRatioRow.holds Try.pinned (OpenSpec.ofChange sizesRatioWrong)

/- THE SECOND FORM. 'bulk': how many values and letters a reading holds, each counted each time it is reached (what is shared counts as often as it is met; a slice's spare places count too). A statement '..UptoSaid' is the law's where the arguments, and the package variables that the reading takes, are together of bulk at most 1048576: NARROWER than '..Said'. Prove '..Said' where nothing that the law and all that it calls make is longer than what came in: it says more and counts as full. Else prove '..UptoSaid'. A law counts once. -/
mutual
def uptoBulk {H : Type} : DataW H → Nat
  | .lit (.string bytes) => bytes.length + 1
  | .lit _ => 1
  | .nil => 1
  | .ptr d => uptoBulk d + 1
  | .slice elems spare => uptoBulkAll elems + uptoBulkAll spare + 1
  | .agg parts => uptoBulkAll parts + 1
  | .iface _ d => uptoBulk d + 1
  | .map entries => uptoBulkEntries entries + 1
  | .held _ => 1
def uptoBulkAll {H : Type} : List (DataW H) → Nat
  | [] => 0
  | d :: r => uptoBulk d + uptoBulkAll r
def uptoBulkEntries {H : Type} : List (Lit × DataW H) → Nat
  | [] => 0
  | x :: r => uptoBulkEntry x + uptoBulkEntries r
def uptoBulkEntry {H : Type} : Lit × DataW H → Nat
  | (.string bytes, d) => bytes.length + uptoBulk d + 1
  | (_, d) => uptoBulk d + 1
 end
def uptoSmall : (H : Type) → List (DataW H) → Bool := fun _ ds => decide (uptoBulkAll ds ≤ 1048576)
def OpenSpec.upto (s : _root_.Go.ChangeSpec) : _root_.Go.OpenSpec := { _root_.Go.OpenSpec.ofChange s with cond := some uptoSmall }

/-- 'freeholdlaw01.SizesForms', WHERE WHAT IT READS IS OF BULK AT MOST 1048576: true; the input reads as it did. -/
def sizesFormsUptoRow : OpenClaim := { program := "ytgicapdiiknbiaa", sum := "288ff1fdc5c29c50d945c802571d14a4b2ea57fbc9a3a090bf178805c6bbadfb", func := "freehold/freeholdlaw01.SizesForms", spec := "sizesForms", unfollowed := true, recurses := true, apart := false, narrowed := true }
def SizesFormsUptoSaid : Prop := sizesFormsUptoRow.holds Try.pinned (OpenSpec.upto sizesFormsSpec)

/-- 'freeholdlaw01.SizesMakes', WHERE WHAT IT READS IS OF BULK AT MOST 1048576: true; the input reads as it did. -/
def sizesMakesUptoRow : OpenClaim := { program := "ytgicapdiiknbiaa", sum := "288ff1fdc5c29c50d945c802571d14a4b2ea57fbc9a3a090bf178805c6bbadfb", func := "freehold/freeholdlaw01.SizesMakes", spec := "sizesMakes", unfollowed := true, recurses := true, apart := false, narrowed := true }
def SizesMakesUptoSaid : Prop := sizesMakesUptoRow.holds Try.pinned (OpenSpec.upto sizesMakesSpec)

/-- 'freeholdlaw01.SizesFits', WHERE WHAT IT READS IS OF BULK AT MOST 1048576: true; the input reads as it did. -/
def sizesFitsUptoRow : OpenClaim := { program := "ytgicapdiiknbiaa", sum := "288ff1fdc5c29c50d945c802571d14a4b2ea57fbc9a3a090bf178805c6bbadfb", func := "freehold/freeholdlaw01.SizesFits", spec := "sizesFits", unfollowed := true, recurses := true, apart := false, narrowed := true }
def SizesFitsUptoSaid : Prop := sizesFitsUptoRow.holds Try.pinned (OpenSpec.upto sizesFitsSpec)

/-- 'freeholdlaw01.SizesMonotone', WHERE WHAT IT READS IS OF BULK AT MOST 1048576: true; the input reads as it did. -/
def sizesMonotoneUptoRow : OpenClaim := { program := "ytgicapdiiknbiaa", sum := "288ff1fdc5c29c50d945c802571d14a4b2ea57fbc9a3a090bf178805c6bbadfb", func := "freehold/freeholdlaw01.SizesMonotone", spec := "sizesMonotone", unfollowed := true, recurses := true, apart := false, narrowed := true }
def SizesMonotoneUptoSaid : Prop := sizesMonotoneUptoRow.holds Try.pinned (OpenSpec.upto sizesMonotoneSpec)

/-- 'freeholdlaw01.SizesMade', WHERE WHAT IT READS IS OF BULK AT MOST 1048576: true; the input reads as it did. -/
def sizesMadeUptoRow : OpenClaim := { program := "ytgicapdiiknbiaa", sum := "288ff1fdc5c29c50d945c802571d14a4b2ea57fbc9a3a090bf178805c6bbadfb", func := "freehold/freeholdlaw01.SizesMade", spec := "sizesMade", unfollowed := true, recurses := true, apart := false, narrowed := true }
def SizesMadeUptoSaid : Prop := sizesMadeUptoRow.holds Try.pinned (OpenSpec.upto sizesMadeSpec)

/-- 'freeholdlaw01.SizesTails', WHERE WHAT IT READS IS OF BULK AT MOST 1048576: true; the input reads as it did. -/
def sizesTailsUptoRow : OpenClaim := { program := "ytgicapdiiknbiaa", sum := "288ff1fdc5c29c50d945c802571d14a4b2ea57fbc9a3a090bf178805c6bbadfb", func := "freehold/freeholdlaw01.SizesTails", spec := "sizesTails", unfollowed := true, recurses := true, apart := false, narrowed := true }
def SizesTailsUptoSaid : Prop := sizesTailsUptoRow.holds Try.pinned (OpenSpec.upto sizesTailsSpec)

/-- 'freeholdlaw01.SizesDense', WHERE WHAT IT READS IS OF BULK AT MOST 1048576: true; the input reads as it did. -/
def sizesDenseUptoRow : OpenClaim := { program := "ytgicapdiiknbiaa", sum := "288ff1fdc5c29c50d945c802571d14a4b2ea57fbc9a3a090bf178805c6bbadfb", func := "freehold/freeholdlaw01.SizesDense", spec := "sizesDense", unfollowed := true, recurses := true, apart := false, narrowed := true }
def SizesDenseUptoSaid : Prop := sizesDenseUptoRow.holds Try.pinned (OpenSpec.upto sizesDenseSpec)

/-- 'freeholdlaw01.SizesFinds', WHERE WHAT IT READS IS OF BULK AT MOST 1048576: true; the input reads as it did. -/
def sizesFindsUptoRow : OpenClaim := { program := "ytgicapdiiknbiaa", sum := "288ff1fdc5c29c50d945c802571d14a4b2ea57fbc9a3a090bf178805c6bbadfb", func := "freehold/freeholdlaw01.SizesFinds", spec := "sizesFinds", unfollowed := true, recurses := true, apart := false, narrowed := true }
def SizesFindsUptoSaid : Prop := sizesFindsUptoRow.holds Try.pinned (OpenSpec.upto sizesFindsSpec)

/-- 'freeholdlaw01.SizesSlack', WHERE WHAT IT READS IS OF BULK AT MOST 1048576: true; the input reads as it did. -/
def sizesSlackUptoRow : OpenClaim := { program := "ytgicapdiiknbiaa", sum := "288ff1fdc5c29c50d945c802571d14a4b2ea57fbc9a3a090bf178805c6bbadfb", func := "freehold/freeholdlaw01.SizesSlack", spec := "sizesSlack", unfollowed := true, recurses := true, apart := false, narrowed := true }
def SizesSlackUptoSaid : Prop := sizesSlackUptoRow.holds Try.pinned (OpenSpec.upto sizesSlackSpec)

/-- 'freeholdlaw01.SizesWorsts', WHERE WHAT IT READS IS OF BULK AT MOST 1048576: true; the input reads as it did. -/
def sizesWorstsUptoRow : OpenClaim := { program := "ytgicapdiiknbiaa", sum := "288ff1fdc5c29c50d945c802571d14a4b2ea57fbc9a3a090bf178805c6bbadfb", func := "freehold/freeholdlaw01.SizesWorsts", spec := "sizesWorsts", unfollowed := true, recurses := true, apart := false, narrowed := true }
def SizesWorstsUptoSaid : Prop := sizesWorstsUptoRow.holds Try.pinned (OpenSpec.upto sizesWorstsSpec)

/-- 'freeholdlaw01.SizesRatio', WHERE WHAT IT READS IS OF BULK AT MOST 1048576: true; the input reads as it did. -/
def sizesRatioUptoRow : OpenClaim := { program := "ytgicapdiiknbiaa", sum := "288ff1fdc5c29c50d945c802571d14a4b2ea57fbc9a3a090bf178805c6bbadfb", func := "freehold/freeholdlaw01.SizesRatio", spec := "sizesRatio", unfollowed := true, recurses := true, apart := false, narrowed := true }
def SizesRatioUptoSaid : Prop := sizesRatioUptoRow.holds Try.pinned (OpenSpec.upto sizesRatioSpec)

end Rows
end Go.Proofs.Ytgicapdiiknbiaa

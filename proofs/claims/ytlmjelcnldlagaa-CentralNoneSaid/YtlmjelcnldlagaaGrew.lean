/- A region that draws its order, whose operations only read and whose callees only make memory: one walk, in the order of the text. -/
import Derived.Test.YtlmjelcnldlagaaBase
import Derived.BigQuiet
set_option linter.unusedVariables false
set_option linter.unusedSimpArgs false
namespace Go.Proofs.Ytlmjelcnldlagaa
open Go.RowKit

/-- The worlds in which nothing that was there has turned. -/
structure After (w : World) where
  w' : World
  ok : Only [] w w'
instance (w : World) : Nonempty (After w) := ⟨⟨w, Only.refl [] w⟩⟩
theorem wp_region_grew {P : Program} {id : Nat} {Q : Exit → Act → World → Prop} {a : Act} {w : World} {l : List Oper} (hm : P.follows .mixedOrders = true) (hB : Region.lexB .any l.toArray = true)
    (h : wpQuiet P l.toArray (fun w' => ∃ u : After w, w' = u.w') (fun a' => ∀ w', (∃ u : After w, w' = u.w') → Q .normal a' w') l a) : (Code.region id l.toArray true).wp P Q a w :=
  wp_region_quiet (C := fun w' => ∃ u : After w, w' = u.w') hm hB ⟨⟨w.drew, (Only.refl [] w).drew⟩, rfl⟩ (by simpa using h)
theorem Grew.g {P : Program} {f : FuncId} {args : Array Value} {w : World} {v : Value} {u : After w} (h : Grew P f args u.w' v) : Calls P f args u.w' fun e w'' => e = .returned v ∧ ∃ u' : After w, w'' = u'.w' :=
  h.mono (by rintro e w' ⟨rfl, ho⟩; exact ⟨rfl, ⟨w', u.ok.trans ho⟩, rfl⟩)
theorem Quiet.grew {P : Program} {f : FuncId} {args : Array Value} {w : World} {v : Value} (h : Quiet P f args w v) : Grew P f args w v := h.mono (by rintro e w' ⟨rfl, hd⟩; exact ⟨rfl, Only.of_dr hd⟩)
theorem Still.grew {P : Program} {f : FuncId} {args : Array Value} {w : World} {v : Value} (h : Still P f args w v) : Grew P f args w v := h.quiet.grew
theorem cell_after {w : World} {p : Addr} {v : Value} (h : w.cell? p = some v) : ∀ u : After w, u.w'.cell? p = some v := fun u => (u.ok.cell (World.block_lt_of_cell? w p h) (by simp)).trans h
end Go.Proofs.Ytlmjelcnldlagaa

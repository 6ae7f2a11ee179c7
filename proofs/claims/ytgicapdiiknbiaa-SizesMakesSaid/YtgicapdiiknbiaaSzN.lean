/- What is true of every table that is made: reckoned for the fifteen wastes. -/
import Derived.Test.YtgicapdiiknbiaaSzL
set_option linter.unusedVariables false
set_option linter.unusedSimpArgs false
namespace Go.Proofs.Ytgicapdiiknbiaa
open Go.RowKit

def goodT (waste : Int) (l : List Cl) : Prop := isTable l ∧ 2 ≤ l.length ∧ (cAt l 0).s = 8 ∧ (cAt l (l.length - 1)).s = 512 ∧
  (∀ j, j < l.length → ((cAt l j).p = 4 ∨ waste * (cAt l j).t ≤ (cAt l j).p * 256) ∧ (0 < j → (cAt l j).s ≤ 2 * (cAt l (j - 1)).s)) ∧
  (∀ j, j < l.length - 1 → ¬ ((cAt l j).p = (cAt l (j + 1)).p ∧ (cAt l j).n ≤ (cAt l (j + 1)).n))
instance (waste : Int) (l : List Cl) : Decidable (goodT waste l) := by unfold goodT; infer_instance

theorem make_good (waste : Int) (h1 : 2 ≤ waste) (h2 : waste ≤ 16) : goodT waste (makeC waste) := by
  have h : waste = 2 ∨ waste = 3 ∨ waste = 4 ∨ waste = 5 ∨ waste = 6 ∨ waste = 7 ∨ waste = 8 ∨ waste = 9 ∨ waste = 10 ∨ waste = 11 ∨ waste = 12 ∨ waste = 13 ∨ waste = 14 ∨ waste = 15 ∨ waste = 16 := by omega
  rcases h with rfl | rfl | rfl | rfl | rfl | rfl | rfl | rfl | rfl | rfl | rfl | rfl | rfl | rfl | rfl <;> decide +kernel

theorem goodT.I64 {waste : Int} {l : List Cl} (h : goodT waste l) : ∀ j, j < l.length → I64 (cAt l j).s ∧ I64 (cAt l j).p ∧ I64 (cAt l j).b := by
  intro j hj
  obtain ⟨h1, h2, h3, h4, h5, h6, h7, h8⟩ := (h.1.2.2 j hj).1
  unfold Go.Proofs.Ytgicapdiiknbiaa.I64
  omega

/-- What Make returns for a good waste: a list that reads as a table. -/
theorem Make_reads (w : World) (waste : Int) (h1 : 2 ≤ waste) (h2 : waste ≤ 16) : Calls Try.prog 22 #[.int .i64 waste] w fun e w' => ∃ A n c, e = .returned (.tuple #[.slice A n c, .int .i64 0]) ∧ ReadsC w' A n (makeC waste) ∧ goodT waste (makeC waste) ∧ Only [] w w' := by
  refine (Make_any w waste h1 h2).mono ?_
  rintro e w1 ⟨v, rfl, hown, hbel⟩
  obtain ⟨A, c, rfl, hr, hA⟩ := own_reads rfl hown (make_good waste h1 h2).I64
  exact ⟨A, _, c, rfl, hr, make_good waste h1 h2, Only.of_below hbel⟩
end Go.Proofs.Ytgicapdiiknbiaa

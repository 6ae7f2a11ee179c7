/- A row of classes that is owned reads as the list. -/
import Derived.Test.YtgicapdiiknbiaaSzF
set_option linter.unusedVariables false
set_option linter.unusedSimpArgs false
namespace Go.Proofs.Ytgicapdiiknbiaa
open Go.RowKit

/-- The cells of a list of classes. -/
def cellsC (l : List Cl) : List Value := l.flatMap Cl.cells
theorem cellsC_length (l : List Cl) : (cellsC l).length = l.length * 3 := by
  induction l with
  | nil => rfl
  | cons x l ih =>
    have : cellsC (x :: l) = x.cells ++ cellsC l := by simp [cellsC]
    rw [this, List.length_append, ih, List.length_cons]
    simp [Cl.cells]
    omega
theorem cellsC_at (l : List Cl) (j : Nat) (hj : j < l.length) : (cellsC l)[j * 3]? = some (.int .i64 (cAt l j).s) ∧ (cellsC l)[j * 3 + 1]? = some (.int .i64 (cAt l j).p) ∧ (cellsC l)[j * 3 + 2]? = some (.int .i64 (cAt l j).b) := by
  induction l generalizing j with
  | nil => cases hj
  | cons x l ih =>
    have e : cellsC (x :: l) = .int .i64 x.s :: .int .i64 x.p :: .int .i64 x.b :: cellsC l := by simp [cellsC, Cl.cells]
    rw [e]
    cases j with
    | zero => simp [cAt]
    | succ j =>
      have := ih j (by simpa using hj)
      rw [show (j + 1) * 3 = j * 3 + 1 + 1 + 1 by omega]
      simpa [cAt] using this
theorem cellsC_append (l m : List Cl) : cellsC (l ++ m) = cellsC l ++ cellsC m := by simp [cellsC]

theorem own_reads {w : World} {base : Nat} {v : Value} {l : List Cl} {n : Nat} (hn : n = l.length) (h : w.ownsRow base 24 3 v n (cellsC l)) (hI : ∀ j, j < n → I64 (cAt l j).s ∧ I64 (cAt l j).p ∧ I64 (cAt l j).b) :
    ∃ A c, v = .slice A n c ∧ ReadsC w A n l ∧ ∀ ad, A = some ad → base ≤ ad.block := by
  rcases h.2 with ⟨rfl, h0⟩ | ⟨g, cap, cur, rfl, hb, hh, h1, h2, h3, ht⟩
  · exact ⟨none, 0, by rw [h0], ⟨hn.symm, hI, fun h => absurd h (by omega)⟩, by simp⟩
  · refine ⟨_, cap, rfl, ⟨hn.symm, hI, fun _ => ⟨⟨g, 0, none⟩, rfl, fun j hj => ?_⟩⟩, by rintro ad e; injection e with e; subst e; exact hb⟩
    have hat : ∀ i u, i < n * 3 → (cellsC l)[i]? = some u → w.cell? ⟨g, i, none⟩ = some u := fun i u hi hu => by
      rw [← ht, List.getElem?_take, if_pos hi, Array.getElem?_toList] at hu
      rw [cell_of_row w g i cur _ _ hh]
      exact hu
    obtain ⟨a1, a2, a3⟩ := cellsC_at l j (by omega)
    have e : (⟨g, 0, none⟩ : Addr).add (j * 3) = ⟨g, j * 3, none⟩ := by
      unfold Addr.add
      split
      · rename_i h0; rw [h0]
      · simp
    rw [e]
    exact ⟨hat (j * 3) _ (by omega) a1, hat (j * 3 + 1) _ (by omega) a2, hat (j * 3 + 2) _ (by omega) a3⟩

theorem pgs_range (s waste : Int) : 1 ≤ pgs s waste ∧ pgs s waste ≤ 4 := by
  unfold pgs
  split
  · omega
  · split
    · omega
    · split <;> omega
end Go.Proofs.Ytgicapdiiknbiaa

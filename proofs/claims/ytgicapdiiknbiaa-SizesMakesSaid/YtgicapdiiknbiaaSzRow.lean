/- The classes of a table, out of an argument. -/
import Derived.Test.YtgicapdiiknbiaaRow
import Derived.Test.YtgicapdiiknbiaaSzJ
set_option linter.unusedVariables false
set_option linter.unusedSimpArgs false
namespace Go.Proofs.Ytgicapdiiknbiaa
open Go.RowKit

theorem ReadsC.of_rows {w : World} {A : Option Addr} {n : Nat} {F : Nat → Nat → Int} (hF : ∀ i j, I64 (F i j))
    (h : 0 < n → ∃ ad, A = some ad ∧ ∀ i, i < n → w.cell? (ad.add (i * 3)) = some (.int .i64 (F i 0)) ∧ ∀ j, j + 1 < 3 → w.cell? ⟨(ad.add (i * 3)).block, (ad.add (i * 3)).off + (j + 1), none⟩ = some (.int .i64 (F i (j + 1)))) :
    ReadsC w A n ((List.range n).map fun i => ⟨F i 0, F i 1, F i 2⟩) := by
  have hg : ∀ j, j < n → cAt ((List.range n).map fun i => (⟨F i 0, F i 1, F i 2⟩ : Cl)) j = ⟨F j 0, F j 1, F j 2⟩ := fun j hj => by
    simp [cAt, List.getD_eq_getElem?_getD, List.getElem?_map, List.getElem?_range hj]
  refine ⟨by simp, fun j hj => ?_, fun h0 => ?_⟩
  · rw [hg j hj]
    exact ⟨hF _ _, hF _ _, hF _ _⟩
  · obtain ⟨ad, rfl, hc⟩ := h h0
    refine ⟨ad, rfl, fun j hj => ?_⟩
    obtain ⟨c1, c2⟩ := hc j hj
    rw [hg j hj]
    exact ⟨c1, c2 0 (by omega), c2 1 (by omega)⟩

end Go.Proofs.Ytgicapdiiknbiaa

/- CentralFew: plain. -/
import Derived.Test.YtlmjelcnldlagaaZMA
set_option linter.unusedVariables false
set_option linter.unusedSimpArgs false
namespace Go.Proofs.Ytlmjelcnldlagaa
open Go.RowKit

def Sp.begun (s : Sp) : Prop := 0 < s.many ∧ s.many < s.st.length
instance (s : Sp) : Decidable s.begun := inferInstanceAs (Decidable (_ ∧ _))
/-- At most one span is begun. -/
def Few (M : List Sp) : Prop := ∀ i j, i < M.length → j < M.length → (sAt M i).begun → (sAt M j).begun → i = j
def begunTo (M : List Sp) : Nat → Nat
  | 0 => 0
  | k + 1 => if (sAt M k).begun then begunTo M k + 1 else begunTo M k
theorem begunTo_le (M : List Sp) (k : Nat) : begunTo M k ≤ k := by
  induction k with
  | zero => exact Nat.le_refl _
  | succ k ih => rw [begunTo]; split <;> omega
theorem begunTo_few {M : List Sp} (h : Few M) (k : Nat) (hk : k ≤ M.length) : begunTo M k ≤ 1 ∧ (begunTo M k ≠ 0 → ∃ j, j < k ∧ (sAt M j).begun) := by
  induction k with
  | zero => exact ⟨by rw [begunTo]; omega, fun h => absurd rfl h⟩
  | succ k ih =>
    obtain ⟨i1, i2⟩ := ih (by omega)
    rw [begunTo]
    split
    · rename_i hb
      refine ⟨?_, fun _ => ⟨k, by omega, hb⟩⟩
      by_cases h0 : begunTo M k = 0
      · omega
      · obtain ⟨j, hj, hbj⟩ := i2 h0
        have := h j k (by omega) (by omega) hbj hb
        omega
    · refine ⟨i1, fun h0 => ?_⟩
      obtain ⟨j, hj, hbj⟩ := i2 h0
      exact ⟨j, by omega, hbj⟩

theorem bestTo_max {M : List Sp} {k b : Nat} (h : bestTo M k = some b) (j : Nat) (hj : j < k) (hr : (sAt M j).many < (sAt M j).st.length) : (sAt M j).many ≤ (sAt M b).many := by
  induction k generalizing b with
  | zero => omega
  | succ k ih =>
    rw [bestTo] at h
    cases h1 : bestTo M k with
    | none =>
      rw [h1] at h
      simp only at h
      split at h
      · injection h with h
        subst h
        by_cases e : j = k
        · subst e; omega
        · exact absurd hr (bestTo_full h1 j (by omega))
      · cases h
    | some b' =>
      rw [h1] at h
      simp only at h
      split at h
      · rename_i h2
        injection h with h
        subst h
        by_cases e : j = k
        · subst e; omega
        · have := ih h1 (by omega)
          omega
      · rename_i h2
        injection h with h
        subst h
        by_cases e : j = k
        · subst e
          by_cases h3 : (sAt M b').many < (sAt M j).many
          · exact absurd ⟨hr, h3⟩ h2
          · omega
        · exact ih h1 (by omega)

theorem Few.take {c : Cl} {M : List Sp} {b : Nat} (hg : GoodL c M) (hf : Few M) (hb : bestTo M M.length = some b) : Few (M.set b (sAt M b).take.2) := by
  obtain ⟨hl, hr⟩ := bestTo_lt _ _ _ hb
  have key : ∀ i, i < M.length → (sAt M i).begun → (sAt M b).begun := fun i hi hB => by
    have h1 := bestTo_max hb i hi hB.2
    have h2 := hB.1
    exact ⟨by omega, hr⟩
  intro i j hi hj bi bj
  rw [List.length_set] at hi hj
  rw [sAt_set _ hl] at bi bj
  by_cases e1 : b = i <;> by_cases e2 : b = j
  · omega
  · rw [if_neg e2] at bj
    exact absurd (hf b j hl hj (key j hj bj) bj) e2
  · rw [if_neg e1] at bi
    exact absurd (hf b i hl hi (key i hi bi) bi) e1
  · rw [if_neg e1] at bi
    rw [if_neg e2] at bj
    exact hf i j hi hj bi bj

def AZ (M : List Sp) : Prop := ∀ s ∈ M, s.many = 0
theorem sAt_mem {M : List Sp} {j : Nat} (h : j < M.length) : sAt M j ∈ M := by
  rw [sAt, List.getD_eq_getElem?_getD, List.getElem?_eq_getElem h]
  exact List.getElem_mem h
theorem AZ.few {M : List Sp} (h : AZ M) : Few M := fun i j hi hj bi bj => by
  have := h _ (sAt_mem hi)
  have := bi.1
  omega
theorem AZ.add {M : List Sp} (h : AZ M) (c : Cl) (x : Int) : AZ (addM M c x) := by
  unfold addM
  split
  · intro s hs
    simp at hs
    rcases hs with hs | rfl | hs
    · exact h s (List.mem_of_mem_take hs)
    · rfl
    · exact h s (List.mem_of_mem_drop hs)
  · exact h
end Go.Proofs.Ytlmjelcnldlagaa

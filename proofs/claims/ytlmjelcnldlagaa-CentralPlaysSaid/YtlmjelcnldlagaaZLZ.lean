/- CentralSwept: plain. -/
import Derived.Test.YtlmjelcnldlagaaZLY
set_option linter.unusedVariables false
set_option linter.unusedSimpArgs false
namespace Go.Proofs.Ytlmjelcnldlagaa
open Go.RowKit

def keptTo (F : List Sp) : Nat → List Sp
  | 0 => []
  | k + 1 => if (sAt F k).many = 0 then keptTo F k else keptTo F k ++ [sAt F k]
theorem keptTo_eq (F : List Sp) : keptOf F = keptTo F F.length := by
  have key : ∀ k, k ≤ F.length → keptTo F k = (F.take k).filter (fun s => s.many != 0) := by
    intro k
    induction k with
    | zero => intro _; rfl
    | succ k ih =>
      intro hk
      have e : F[k]'(by omega) = sAt F k := by simp [sAt, List.getD_eq_getElem?_getD, List.getElem?_eq_getElem (show k < F.length by omega)]
      rw [keptTo, List.take_succ_eq_append_getElem (by omega), List.filter_append, ← ih (by omega), e]
      by_cases h : (sAt F k).many = 0
      · rw [if_pos h]; simp [h]
      · rw [if_neg h]; simp [h]
  rw [key _ (Nat.le_refl _), List.take_of_length_le (Nat.le_refl _)]
theorem zk_len (F : List Sp) (k : Nat) : (zeroTo F k).length + (keptTo F k).length = k := by
  induction k with
  | zero => rfl
  | succ k ih =>
    rw [zeroTo, keptTo]
    split
    · rw [List.length_append]; simp; omega
    · rw [List.length_append]; simp; omega
theorem zero_mono (F : List Sp) {j k : Nat} (h : j ≤ k) : (zeroTo F j).length ≤ (zeroTo F k).length := by
  induction k with
  | zero => rw [show j = 0 by omega]; exact Nat.le_refl _
  | succ k ih =>
    by_cases e : j = k + 1
    · rw [e]; exact Nat.le_refl _
    · have := ih (by omega)
      rw [zeroTo]
      split
      · rw [List.length_append]; omega
      · exact this
theorem kept_mono (F : List Sp) {j k : Nat} (h : j ≤ k) : (keptTo F j).length ≤ (keptTo F k).length := by
  induction k with
  | zero => rw [show j = 0 by omega]; exact Nat.le_refl _
  | succ k ih =>
    by_cases e : j = k + 1
    · rw [e]; exact Nat.le_refl _
    · have := ih (by omega)
      rw [keptTo]
      split
      · exact this
      · rw [List.length_append]; omega
theorem zero_at (F : List Sp) (n i : Nat) (h : i < (zeroTo F n).length) : ∃ j, j < n ∧ rAt (zeroTo F n) i = ((sAt F j).start, (sAt F j).pages) ∧ (zeroTo F j).length = i ∧ (sAt F j).many = 0 := by
  induction n with
  | zero => simp [zeroTo] at h
  | succ n ih =>
    rw [zeroTo] at h ⊢
    by_cases h0 : (sAt F n).many = 0
    · rw [if_pos h0] at h ⊢
      rw [List.length_append] at h
      simp at h
      rw [rAt_snoc]
      by_cases e : i = (zeroTo F n).length
      · rw [if_pos e]; exact ⟨n, by omega, rfl, e.symm, h0⟩
      · rw [if_neg e]
        obtain ⟨j, j1, j2⟩ := ih (by omega)
        exact ⟨j, by omega, j2⟩
    · rw [if_neg h0] at h ⊢
      obtain ⟨j, j1, j2⟩ := ih h
      exact ⟨j, by omega, j2⟩
theorem sAt_snoc (M : List Sp) (s : Sp) (i : Nat) : sAt (M ++ [s]) i = if i = M.length then s else sAt M i := by
  simp only [sAt, List.getD_eq_getElem?_getD]
  by_cases e : i = M.length
  · rw [if_pos e, e]; simp
  · rw [if_neg e]
    by_cases h : i < M.length
    · rw [List.getElem?_append_left h]
    · rw [List.getElem?_eq_none (by simp; omega), List.getElem?_eq_none (by omega)]
theorem kept_at (F : List Sp) (n i : Nat) (h : i < (keptTo F n).length) : ∃ j, j < n ∧ sAt (keptTo F n) i = sAt F j ∧ (keptTo F j).length = i ∧ (sAt F j).many ≠ 0 := by
  induction n with
  | zero => simp [keptTo] at h
  | succ n ih =>
    rw [keptTo] at h ⊢
    by_cases h0 : (sAt F n).many = 0
    · rw [if_pos h0] at h ⊢
      obtain ⟨j, j1, j2⟩ := ih h
      exact ⟨j, by omega, j2⟩
    · rw [if_neg h0] at h ⊢
      rw [List.length_append] at h
      simp at h
      rw [sAt_snoc]
      by_cases e : i = (keptTo F n).length
      · rw [if_pos e]; exact ⟨n, by omega, rfl, e.symm, h0⟩
      · rw [if_neg e]
        obtain ⟨j, j1, j2⟩ := ih (by omega)
        exact ⟨j, by omega, j2⟩
/-- A struck span is the next of those that were returned. -/
theorem next_zero {F : List Sp} {n j : Nat} (hj : j < n) (h0 : (sAt F j).many = 0) : (zeroTo F j).length < (zeroTo F n).length ∧ rAt (zeroTo F n) (zeroTo F j).length = ((sAt F j).start, (sAt F j).pages) ∧ (zeroTo F (j + 1)).length = (zeroTo F j).length + 1 ∧ (keptTo F (j + 1)).length = (keptTo F j).length := by
  have e1 : (zeroTo F (j + 1)).length = (zeroTo F j).length + 1 := by rw [zeroTo, if_pos h0, List.length_append]; rfl
  have h1 := zero_mono F (show j + 1 ≤ n by omega)
  have hl : (zeroTo F j).length < (zeroTo F n).length := by omega
  obtain ⟨j', j1, j2, j3, j4⟩ := zero_at F n _ hl
  have : j' = j := by
    rcases Nat.lt_trichotomy j' j with h | h | h
    · have a1 := zero_mono F (show j' + 1 ≤ j by omega)
      have a2 : (zeroTo F (j' + 1)).length = (zeroTo F j').length + 1 := by rw [zeroTo, if_pos j4, List.length_append]; rfl
      omega
    · exact h
    · have a1 := zero_mono F (show j + 1 ≤ j' by omega)
      omega
  subst this
  exact ⟨hl, j2, e1, by rw [keptTo, if_pos h0]⟩
/-- A kept span is the next of those that are left, and none of those that were returned is like it. -/
theorem next_kept {F : List Sp} {n j : Nat} (hj : j < n) (h0 : (sAt F j).many ≠ 0) (hs : ∀ a b, a < b → b < n → (sAt F a).start < (sAt F b).start) :
    (keptTo F j).length < (keptTo F n).length ∧ sAt (keptTo F n) (keptTo F j).length = sAt F j ∧ (keptTo F (j + 1)).length = (keptTo F j).length + 1 ∧ (zeroTo F (j + 1)).length = (zeroTo F j).length ∧
    ((zeroTo F j).length < (zeroTo F n).length → (rAt (zeroTo F n) (zeroTo F j).length).1 ≠ (sAt F j).start) := by
  have e1 : (keptTo F (j + 1)).length = (keptTo F j).length + 1 := by rw [keptTo, if_neg h0, List.length_append]; rfl
  have h1 := kept_mono F (show j + 1 ≤ n by omega)
  have hl : (keptTo F j).length < (keptTo F n).length := by omega
  obtain ⟨j', j1, j2, j3, j4⟩ := kept_at F n _ hl
  have : j' = j := by
    rcases Nat.lt_trichotomy j' j with h | h | h
    · have a1 := kept_mono F (show j' + 1 ≤ j by omega)
      have a2 : (keptTo F (j' + 1)).length = (keptTo F j').length + 1 := by rw [keptTo, if_neg j4, List.length_append]; rfl
      omega
    · exact h
    · have a1 := kept_mono F (show j + 1 ≤ j' by omega)
      omega
  subst this
  refine ⟨hl, j2, e1, by rw [zeroTo, if_neg h0], fun hz => ?_⟩
  obtain ⟨i, i1, i2, i3, i4⟩ := zero_at F n _ hz
  have hij : j' < i := by
    rcases Nat.lt_trichotomy i j' with h | h | h
    · have a1 := zero_mono F (show i + 1 ≤ j' by omega)
      have a2 : (zeroTo F (i + 1)).length = (zeroTo F i).length + 1 := by rw [zeroTo, if_pos i4, List.length_append]; rfl
      omega
    · subst h; exact absurd i4 h0
    · exact h
  rw [i2]
  have := hs j' i hij i1
  show (sAt F i).start ≠ _
  omega
theorem kept_many {F : List Sp} {i : Nat} (h : i < (keptOf F).length) : (sAt (keptOf F) i).many ≠ 0 := by
  rw [keptTo_eq] at h ⊢
  obtain ⟨j, _, h1, _, h2⟩ := kept_at F _ i h
  rw [h1]
  exact h2
theorem zero_kept (F : List Sp) : zeroOf (keptOf F) = [] := zeroTo_nil _ (fun j hj => kept_many hj)
theorem GoodL.starts {c : Cl} {M : List Sp} (hg : GoodL c M) (a b : Nat) (hab : a < b) (hb : b < M.length) : (sAt M a).start < (sAt M b).start := by
  have h1 := hg.ord a b hab hb
  have h2 := (hg.sp a (by omega)).1.p1
  omega
end Go.Proofs.Ytlmjelcnldlagaa

/- Add of the list. -/
import Derived.Test.YtlmjelcnldlagaaLG
set_option linter.unusedVariables false
set_option linter.unusedSimpArgs false
namespace Go.Proofs.Ytlmjelcnldlagaa
open Go.RowKit

/-- A span among the first k is less than so many pages away. -/
def closeTo (M : List Sp) (x pages : Int) : Nat → Bool
  | 0 => false
  | k + 1 => closeTo M x pages k || decide (max (sAt M k).start x - min (sAt M k).start x < pages)
theorem closeTo_false {M : List Sp} {x pages : Int} {n : Nat} (h : closeTo M x pages n = false) (j : Nat) (hj : j < n) : ¬ max (sAt M j).start x - min (sAt M j).start x < pages := by
  induction n with
  | zero => omega
  | succ n ih =>
    rw [closeTo, Bool.or_eq_false_iff] at h
    by_cases h1 : j = n
    · subst h1; exact of_decide_eq_false h.2
    · exact ih h.1 (by omega)
theorem closeTo_true {M : List Sp} {x pages : Int} {n j : Nat} (hj : j < n) (h : max (sAt M j).start x - min (sAt M j).start x < pages) : closeTo M x pages n = true := by
  cases hc : closeTo M x pages n with
  | true => rfl
  | false => exact absurd h (closeTo_false hc j hj)
def addE (M : List Sp) (c : Cl) (x : Int) : Int := if ¬ Sp.fits x c.size c.pages c.batch then 1 else if closeTo M x c.pages M.length then 9 else 0
def addM (M : List Sp) (c : Cl) (x : Int) : List Sp := if addE M c x = 0 then M.take (posTo M x M.length) ++ [Sp.fresh x c.size c.pages c.batch] ++ M.drop (posTo M x M.length) else M

theorem posTo_spec {M : List Sp} {x : Int} (n : Nat) (hs : ∀ i j, i < j → j < n → (sAt M i).start < (sAt M j).start) : (∀ j, j < posTo M x n → (sAt M j).start < x) ∧ (∀ j, posTo M x n ≤ j → j < n → x ≤ (sAt M j).start) := by
  induction n with
  | zero => exact ⟨fun j hj => absurd hj (by rw [posTo]; omega), fun j h1 h2 => absurd h2 (by omega)⟩
  | succ n ih =>
    rw [posTo]
    by_cases h : (sAt M n).start < x
    · rw [if_pos h]
      refine ⟨fun j hj => ?_, fun j h1 h2 => absurd h2 (by omega)⟩
      by_cases h1 : j = n
      · rw [h1]; exact h
      · have := hs j n (by omega) (by omega)
        omega
    · rw [if_neg h]
      obtain ⟨i1, i2⟩ := ih (fun i j a b => hs i j a (by omega))
      refine ⟨i1, fun j h1 h2 => ?_⟩
      by_cases h3 : j = n
      · rw [h3]; omega
      · exact i2 j h1 (by omega)

theorem mem_take {L : List En} {e : En} {k : Nat} (h : e ∈ L.take k) : ∃ i, i < k ∧ i < L.length ∧ e = eAt L i := by
  obtain ⟨i, hi, rfl⟩ := List.getElem_of_mem h
  rw [List.length_take] at hi
  exact ⟨i, by omega, by omega, by rw [List.getElem_take, eAt, List.getD_eq_getElem?_getD, List.getElem?_eq_getElem (by omega)]; rfl⟩
theorem mem_drop {L : List En} {e : En} {k : Nat} (h : e ∈ L.drop k) : ∃ i, k ≤ i ∧ i < L.length ∧ e = eAt L i := by
  obtain ⟨i, hi, rfl⟩ := List.getElem_of_mem h
  rw [List.length_drop] at hi
  exact ⟨k + i, by omega, by omega, by rw [List.getElem_drop, eAt, List.getD_eq_getElem?_getD, List.getElem?_eq_getElem (by omega)]; rfl⟩
theorem entCells_take (L : List En) (k : Nat) (hk : k ≤ L.length) : entCells (L.take k) = (entCells L).take (k * 3) ∧ entCells (L.drop k) = (entCells L).drop (k * 3) := by
  have h1 : entCells L = entCells (L.take k) ++ entCells (L.drop k) := by rw [← entCells_append, List.take_append_drop]
  have h2 : (entCells (L.take k)).length = k * 3 := by rw [entCells_len, List.length_take]; congr 1; omega
  constructor
  · rw [h1, ← h2, List.take_left]
  · rw [h1, ← h2, List.drop_left]
theorem entCells_one (L : List En) : ∀ v ∈ entCells L, v.oneCell' = true := by
  intro v hv
  obtain ⟨e, _, he⟩ := List.mem_flatMap.1 hv
  simp at he
  rcases he with rfl | rfl | rfl <;> rfl

/-- A span put in. -/
theorem ListAt.insert {w w' : World} {P : Nat} {A A' : Value} {c : Cl} {L : List En} {e : En} {k : Nat} (h : ListAt w P A c L) (hk : k ≤ L.length)
    (hblk : Blk w' P 68 #[.int .i64 c.size, .int .i64 c.pages, .int .i64 c.batch, A']) (hrow : w'.ownsRow 0 75 3 A' (L.length + 1) ((entCells L).take (k * 3) ++ [.int .i64 e.s.many, .int .i64 e.s.start, .pointer (some ⟨e.p, 0, none⟩)] ++ (entCells L).drop (k * 3)))
    (hsp : ∀ x ∈ L, SpanAt w' x.p x.q x.cap x.s) (he : SpanAt w' e.p e.q e.cap e.s ∧ e.s.of c) (hneL : ∀ x ∈ L, A'.ownBlock ≠ some x.p ∧ A'.ownBlock ≠ some x.q) (hneE : e.p ≠ P ∧ e.q ≠ P ∧ A'.ownBlock ≠ some e.p ∧ A'.ownBlock ≠ some e.q) (hnA : A'.ownBlock ≠ some P)
    (hd : ∀ x ∈ L, x.p ≠ e.p ∧ x.p ≠ e.q ∧ x.q ≠ e.p ∧ x.q ≠ e.q) (h1 : ∀ j, j < k → (eAt L j).s.start + c.pages ≤ e.s.start) (h2 : ∀ j, k ≤ j → j < L.length → e.s.start + c.pages ≤ (eAt L j).s.start) :
    ListAt w' P A' c (L.take k ++ [e] ++ L.drop k) := by
  have hm : ∀ x, x ∈ L.take k ++ [e] ++ L.drop k → x ∈ L ∨ x = e := fun x hx => by
    simp at hx
    rcases hx with hx | rfl | hx
    · exact .inl (List.mem_of_mem_take hx)
    · exact .inr rfl
    · exact .inl (List.mem_of_mem_drop hx)
  refine ⟨hblk, h.one, ?_, fun x hx => ?_, fun x hx => ?_, hnA, ?_⟩
  · obtain ⟨t1, t2⟩ := entCells_take L k hk
    rw [show (L.take k ++ [e] ++ L.drop k).length = L.length + 1 by simp; omega, entCells_append, entCells_append, t1, t2]
    exact hrow
  · rcases hm x hx with h1 | rfl
    · exact ⟨hsp x h1, (h.sp x h1).2⟩
    · exact he
  · rcases hm x hx with h1 | rfl
    · have := h.ne x h1
      exact ⟨this.1, this.2.1, hneL x h1⟩
    · exact hneE
  · have hap := h.ap
    rw [← List.take_append_drop k L, List.pairwise_append] at hap
    rw [List.append_assoc, List.pairwise_append, List.pairwise_append]
    refine ⟨hap.1, ⟨List.pairwise_singleton _ _, hap.2.1, fun a ha b hb => ?_⟩, fun a ha b hb => ?_⟩
    · simp at ha
      subst ha
      obtain ⟨i, i1, i2, rfl⟩ := mem_drop hb
      have := hd _ (eAt_mem i2)
      exact ⟨by rw [he.2.2.1]; exact h2 i i1 i2, Ne.symm this.1, Ne.symm this.2.2.1, Ne.symm this.2.1, Ne.symm this.2.2.2⟩
    · rcases List.mem_append.1 hb with hb | hb
      · simp at hb
        subst hb
        obtain ⟨i, i1, i2, rfl⟩ := mem_take ha
        have := hd _ (eAt_mem i2)
        have hof := (h.get i2).2.2.1
        exact ⟨by rw [hof]; exact h1 i i1, this.1, this.2.1, this.2.2.1, this.2.2.2⟩
      · exact hap.2.2 a ha b hb
end Go.Proofs.Ytlmjelcnldlagaa

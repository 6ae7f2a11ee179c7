/- The runs of pages in a state: plain. -/
import Derived.Test.YtmalmkccgjeboaaDoorVM
set_option linter.unusedVariables false
set_option linter.unusedSimpArgs false
namespace Go.Proofs.YtmalmkccgjeboaaDoor
open Go.RowKit

theorem Blk.new2' (w : World) (o : Obj) (t : TypeId) (cs : Array Value) : Blk ((w.alloc o).alloc (.cells cs t)) (w.heap.size + 1) t cs := by
  simpa using Blk.new (w.alloc o) t cs
/-- Run j of a list of runs. -/
abbrev rAt (l : List (Int × Int)) (j : Nat) : Int × Int := l.getD j (0, 0)
/-- Where the first j runs end. -/
def endTo (l : List (Int × Int)) (j : Nat) : Int := if j = 0 then 0 else (rAt l (j - 1)).1 + (rAt l (j - 1)).2
/-- The last run gets one page more. -/
def bump (l : List (Int × Int)) : List (Int × Int) := l.set (l.length - 1) ((rAt l (l.length - 1)).1, (rAt l (l.length - 1)).2 + 1)
/-- The maximal runs of pages in a state, of the first k pages. -/
def runsTo (st : Int → Int) (v : Int) : Nat → List (Int × Int)
  | 0 => []
  | k + 1 => if st k = v then (if 0 < k ∧ st ((k : Int) - 1) = v then bump (runsTo st v k) else runsTo st v k ++ [((k : Int), 1)]) else runsTo st v k

theorem rAt_set (l : List (Int × Int)) (i j : Nat) (x : Int × Int) (h : i < l.length) : rAt (l.set i x) j = if i = j then x else rAt l j := by
  unfold rAt
  rw [List.getD_eq_getElem?_getD, List.getElem?_set, List.getD_eq_getElem?_getD]
  by_cases e : i = j
  · subst e; simp [h]
  · simp [e]
theorem rAt_snoc (l : List (Int × Int)) (j : Nat) (x : Int × Int) : rAt (l ++ [x]) j = if j = l.length then x else rAt l j := by
  unfold rAt
  rw [List.getD_eq_getElem?_getD, List.getD_eq_getElem?_getD]
  by_cases e : j = l.length
  · subst e; simp
  · rw [if_neg e]
    by_cases h : j < l.length
    · rw [List.getElem?_append_left h]
    · rw [List.getElem?_eq_none (by simp; omega), List.getElem?_eq_none (by omega)]
theorem bump_len (l : List (Int × Int)) : (bump l).length = l.length := by unfold bump; simp

/-- What holds of the runs of the first k pages. -/
structure RunsOk (st : Int → Int) (v : Int) (k : Nat) (l : List (Int × Int)) : Prop where
  pos : ∀ j, j < l.length → 1 ≤ (rAt l j).2
  lo : ∀ j, j < l.length → endTo l j ≤ (rAt l j).1
  apart : ∀ j, j < l.length → 0 < j → endTo l j < (rAt l j).1
  hi : ∀ j, j ≤ l.length → 0 ≤ endTo l j ∧ endTo l j ≤ k
  gap : ∀ j, j < l.length → ∀ q : Nat, endTo l j ≤ q → (q : Int) < (rAt l j).1 → st q ≠ v
  last : ∀ q : Nat, endTo l l.length ≤ q → q < k → st q ≠ v
  body : ∀ j, j < l.length → ∀ q : Nat, (rAt l j).1 ≤ q → (q : Int) < (rAt l j).1 + (rAt l j).2 → st q = v
  len : l.length ≤ k

theorem endTo_snoc (l : List (Int × Int)) (x : Int × Int) (j : Nat) (h : j ≤ l.length) : endTo (l ++ [x]) j = endTo l j := by
  unfold endTo
  by_cases e : j = 0
  · rw [if_pos e, if_pos e]
  · rw [if_neg e, if_neg e, rAt_snoc, if_neg (by omega)]
theorem endTo_succ (l : List (Int × Int)) (j : Nat) : endTo l (j + 1) = (rAt l j).1 + (rAt l j).2 := by unfold endTo; rw [if_neg (by omega)]; rfl

theorem RunsOk.snoc {st : Int → Int} {v : Int} {k : Nat} {l : List (Int × Int)} (h : RunsOk st v k l) (hv : st k = v) (hn : ¬ (0 < k ∧ st ((k : Int) - 1) = v)) : RunsOk st v (k + 1) (l ++ [((k : Int), 1)]) := by
  have hnew : rAt (l ++ [((k : Int), 1)]) l.length = ((k : Int), 1) := by rw [rAt_snoc, if_pos rfl]
  have hold : ∀ j, j < l.length → rAt (l ++ [((k : Int), 1)]) j = rAt l j := fun j hj => by rw [rAt_snoc, if_neg (by omega)]
  have hL : (l ++ [((k : Int), (1 : Int))]).length = l.length + 1 := by simp
  have hend := h.hi l.length (Nat.le_refl _)
  constructor
  · intro j hj
    rcases Nat.lt_or_ge j l.length with e | e
    · rw [hold j e]; exact h.pos j e
    · obtain rfl : j = l.length := by omega
      rw [hnew]; exact Int.le_refl _
  · intro j hj
    rw [endTo_snoc _ _ _ (by omega)]
    rcases Nat.lt_or_ge j l.length with e | e
    · rw [hold j e]; exact h.lo j e
    · obtain rfl : j = l.length := by omega
      rw [hnew]; exact hend.2
  · intro j hj h0
    rw [endTo_snoc _ _ _ (by omega)]
    rcases Nat.lt_or_ge j l.length with e | e
    · rw [hold j e]; exact h.apart j e h0
    · obtain rfl : j = l.length := by omega
      rw [hnew]
      show endTo l l.length < (k : Int)
      obtain ⟨j, hj⟩ : ∃ j, l.length = j + 1 := ⟨l.length - 1, by omega⟩
      rcases Int.lt_or_eq_of_le hend.2 with e1 | e1
      · exact e1
      · exfalso
        rw [hj, endTo_succ] at e1
        have hp := h.pos j (by omega)
        have hi := (h.hi j (by omega)).1
        have hlo := h.lo j (by omega)
        refine hn ⟨by omega, ?_⟩
        have := h.body j (by omega) (k - 1) (by omega) (by omega)
        rwa [show ((k - 1 : Nat) : Int) = (k : Int) - 1 by omega] at this
  · intro j hj
    rcases Nat.lt_or_ge l.length j with e | e
    · obtain rfl : j = l.length + 1 := by omega
      rw [endTo_succ, hnew]
      show 0 ≤ (k : Int) + 1 ∧ (k : Int) + 1 ≤ ((k + 1 : Nat) : Int)
      omega
    · rw [endTo_snoc _ _ _ e]
      have := h.hi j e
      omega
  · intro j hj q h1 h2
    rw [endTo_snoc _ _ _ (by omega)] at h1
    rcases Nat.lt_or_ge j l.length with e | e
    · rw [hold j e] at h2; exact h.gap j e q h1 h2
    · obtain rfl : j = l.length := by omega
      rw [hnew] at h2
      exact h.last q h1 (by have : (q : Int) < k := h2; omega)
  · intro q h1 h2
    rw [hL, endTo_succ, hnew] at h1
    have : (k : Int) + 1 ≤ q := h1
    omega
  · intro j hj q h1 h2
    rcases Nat.lt_or_ge j l.length with e | e
    · rw [hold j e] at h1 h2; exact h.body j e q h1 h2
    · obtain rfl : j = l.length := by omega
      rw [hnew] at h1 h2
      have h1 : (k : Int) ≤ q := h1
      have h2 : (q : Int) < (k : Int) + 1 := h2
      obtain rfl : q = k := by omega
      exact hv
  · rw [hL]; have := h.len; omega

theorem RunsOk.keep {st : Int → Int} {v : Int} {k : Nat} {l : List (Int × Int)} (h : RunsOk st v k l) (hv : st k ≠ v) : RunsOk st v (k + 1) l := by
  obtain ⟨a, b, c, d, e, f, g, z⟩ := h
  refine ⟨a, b, c, fun j hj => ?_, e, fun q h1 h2 => ?_, g, by omega⟩
  · have := d j hj; omega
  · rcases Nat.lt_or_ge q k with e | e
    · exact f q h1 e
    · obtain rfl : q = k := by omega
      exact hv

/-- The last page is in the state just if the last run ends with it. -/
theorem RunsOk.touch {st : Int → Int} {v : Int} {k : Nat} {l : List (Int × Int)} (h : RunsOk st v k l) : (0 < k ∧ st ((k : Int) - 1) = v) ↔ (0 < l.length ∧ endTo l l.length = k) := by
  have hend := h.hi l.length (Nat.le_refl _)
  constructor
  · rintro ⟨h0, h1⟩
    have hne : ¬ endTo l l.length ≤ ((k - 1 : Nat) : Int) := fun hle => h.last (k - 1) hle (by omega) (by rwa [show ((k - 1 : Nat) : Int) = (k : Int) - 1 by omega])
    refine ⟨?_, by omega⟩
    rcases Nat.eq_zero_or_pos l.length with e | e
    · rw [e] at hne; exact absurd (show endTo l 0 ≤ _ by unfold endTo; rw [if_pos rfl]; omega) hne
    · exact e
  · rintro ⟨h0, h1⟩
    obtain ⟨j, hj⟩ : ∃ j, l.length = j + 1 := ⟨l.length - 1, by omega⟩
    rw [hj, endTo_succ] at h1
    have hp := h.pos j (by omega)
    have hi := (h.hi j (by omega)).1
    have hlo := h.lo j (by omega)
    refine ⟨by omega, ?_⟩
    have := h.body j (by omega) (k - 1) (by omega) (by omega)
    rwa [show ((k - 1 : Nat) : Int) = (k : Int) - 1 by omega] at this

theorem RunsOk.bump {st : Int → Int} {v : Int} {k : Nat} {l : List (Int × Int)} (h : RunsOk st v k l) (hv : st k = v) (hy : 0 < k ∧ st ((k : Int) - 1) = v) : RunsOk st v (k + 1) (bump l) := by
  obtain ⟨h0, hend⟩ := h.touch.1 hy
  obtain ⟨n, hn⟩ : ∃ n, l.length = n + 1 := ⟨l.length - 1, by omega⟩
  have hnew : rAt (Proofs.YtmalmkccgjeboaaDoor.bump l) n = ((rAt l n).1, (rAt l n).2 + 1) := by
    unfold Proofs.YtmalmkccgjeboaaDoor.bump
    rw [hn, Nat.add_sub_cancel, rAt_set _ _ _ _ (by omega), if_pos rfl]
  have hold : ∀ j, j < n → rAt (Proofs.YtmalmkccgjeboaaDoor.bump l) j = rAt l j := fun j hj => by
    unfold Proofs.YtmalmkccgjeboaaDoor.bump
    rw [hn, Nat.add_sub_cancel, rAt_set _ _ _ _ (by omega), if_neg (by omega)]
  have hle : ∀ j, j ≤ n → endTo (Proofs.YtmalmkccgjeboaaDoor.bump l) j = endTo l j := fun j hj => by
    unfold endTo
    by_cases e : j = 0
    · rw [if_pos e, if_pos e]
    · rw [if_neg e, if_neg e, hold _ (by omega)]
  have hL := bump_len l
  rw [hn] at hL
  rw [hn, endTo_succ] at hend
  have hp := h.pos n (by omega)
  have hi := (h.hi n (by omega)).1
  have hlo := h.lo n (by omega)
  constructor
  · intro j hj
    rcases Nat.lt_or_ge j n with e | e
    · rw [hold j e]; exact h.pos j (by omega)
    · obtain rfl : j = n := by omega
      rw [hnew]; show 1 ≤ _ + 1; omega
  · intro j hj
    rw [hle j (by omega)]
    rcases Nat.lt_or_ge j n with e | e
    · rw [hold j e]; exact h.lo j (by omega)
    · obtain rfl : j = n := by omega
      rw [hnew]; exact hlo
  · intro j hj hj0
    rw [hle j (by omega)]
    rcases Nat.lt_or_ge j n with e | e
    · rw [hold j e]; exact h.apart j (by omega) hj0
    · obtain rfl : j = n := by omega
      rw [hnew]; exact h.apart _ (by omega) hj0
  · intro j hj
    rcases Nat.lt_or_ge n j with e | e
    · obtain rfl : j = n + 1 := by omega
      rw [endTo_succ, hnew]
      show 0 ≤ _ + (_ + 1) ∧ _ + (_ + 1) ≤ ((k + 1 : Nat) : Int)
      omega
    · rw [hle j e]
      have := h.hi j (by omega)
      omega
  · intro j hj q h1 h2
    rw [hle j (by omega)] at h1
    rcases Nat.lt_or_ge j n with e | e
    · rw [hold j e] at h2; exact h.gap j (by omega) q h1 h2
    · obtain rfl : j = n := by omega
      rw [hnew] at h2
      exact h.gap _ (by omega) q h1 h2
  · intro q h1 h2
    rw [hL, endTo_succ, hnew] at h1
    have h1 : (rAt l n).1 + ((rAt l n).2 + 1) ≤ q := h1
    omega
  · intro j hj q h1 h2
    rcases Nat.lt_or_ge j n with e | e
    · rw [hold j e] at h1 h2; exact h.body j (by omega) q h1 h2
    · obtain rfl : j = n := by omega
      rw [hnew] at h1 h2
      have h2 : (q : Int) < (rAt l j).1 + ((rAt l j).2 + 1) := h2
      rcases Nat.lt_or_ge q k with e1 | e1
      · exact h.body _ (by omega) q h1 (by omega)
      · obtain rfl : q = k := by omega
        exact hv
  · rw [hL]; have := h.len; omega

theorem runsTo_ok (st : Int → Int) (v : Int) (k : Nat) : RunsOk st v k (runsTo st v k) := by
  induction k with
  | zero => exact ⟨by simp [runsTo], by simp [runsTo], by simp [runsTo], fun j hj => by obtain rfl : j = 0 := by simpa [runsTo] using hj
                                                                                        unfold endTo; rw [if_pos rfl]; omega, by simp [runsTo], fun q _ h => absurd h (by omega), by simp [runsTo], by simp [runsTo]⟩
  | succ k ih =>
    unfold runsTo
    split
    · rename_i hv
      split
      · rename_i hy; exact ih.bump hv hy
      · rename_i hy; exact ih.snoc hv hy
    · rename_i hv; exact ih.keep hv

/-- The cells of runs. -/
def cellsR (l : List (Int × Int)) : List Value := l.flatMap fun r => [.int .i64 r.1, .int .i64 r.2]
theorem cellsR_len (l : List (Int × Int)) : (cellsR l).length = l.length * 2 := by
  induction l with
  | nil => rfl
  | cons x l ih =>
    have : cellsR (x :: l) = [.int .i64 x.1, .int .i64 x.2] ++ cellsR l := rfl
    rw [this, List.length_append, ih]
    simp
    omega
theorem cellsR_at (l : List (Int × Int)) (j : Nat) (h : j < l.length) : (cellsR l)[j * 2]? = some (.int .i64 (rAt l j).1) ∧ (cellsR l)[j * 2 + 1]? = some (.int .i64 (rAt l j).2) := by
  induction l generalizing j with
  | nil => simp at h
  | cons x l ih =>
    have e : cellsR (x :: l) = .int .i64 x.1 :: .int .i64 x.2 :: cellsR l := rfl
    rw [e]
    cases j with
    | zero => simp [rAt]
    | succ j =>
      have := ih j (by simpa using h)
      rw [show (j + 1) * 2 = j * 2 + 1 + 1 by omega]
      simpa [rAt] using this
theorem cellsR_append (l m : List (Int × Int)) : cellsR (l ++ m) = cellsR l ++ cellsR m := by simp [cellsR]
theorem cellsR_set (l : List (Int × Int)) (j : Nat) (y : Int) (h : j < l.length) : cellsR (l.set j ((rAt l j).1, y)) = (cellsR l).set (j * 2 + 1) (.int .i64 y) := by
  induction l generalizing j with
  | nil => simp at h
  | cons x l ih =>
    have e : cellsR (x :: l) = .int .i64 x.1 :: .int .i64 x.2 :: cellsR l := rfl
    rw [e]
    cases j with
    | zero => simp [rAt, cellsR]
    | succ j =>
      have := ih j (by simpa using h)
      rw [show (j + 1) * 2 + 1 = j * 2 + 1 + 1 + 1 by omega]
      simp only [List.set_cons_succ]
      rw [← this]
      simp [rAt, cellsR]
theorem cellsR_bump (l : List (Int × Int)) (h : 0 < l.length) : cellsR (bump l) = (cellsR l).set ((l.length - 1) * 2 + 1) (.int .i64 ((rAt l (l.length - 1)).2 + 1)) := cellsR_set l _ _ (by omega)

/-- A cell of a row of one's own is written. -/
theorem own_set {w : World} {base : Nat} {e : TypeId} {size n g c : Nat} {xs : List Value} (h : w.ownsRow base e size (.slice (some ⟨g, 0, none⟩) n c) n xs) (i : Nat) (u : Value) : (w.setCell ⟨g, i, none⟩ u).ownsRow base e size (.slice (some ⟨g, 0, none⟩) n c) n (xs.set i u) := by
  obtain ⟨h1, h2⟩ := h
  refine ⟨by simpa using h1, ?_⟩
  rcases h2 with ⟨h2, _⟩ | ⟨g', cap, cur, hv, hb, hg, h3, h4, h5, h6⟩
  · cases h2
  · injection hv with e1 _ e3
    injection e1 with e1
    injection e1 with e1 _ _
    subst e1 e3
    have hB : Blk w g e cur := hg
    refine .inr ⟨g, c, cur.setIfInBounds i u, rfl, hb, hB.set_ i u, h3, h4, by simpa using h5, ?_⟩
    rw [← h6, Array.toList_setIfInBounds, List.take_set]

/-- The cells of a row of one's own. -/
theorem own_runs {w : World} {base n g c : Nat} {e : TypeId} {l : List (Int × Int)} (h : w.ownsRow base e 2 (.slice (some ⟨g, 0, none⟩) n c) n (cellsR l)) (hn : n = l.length) {j : Nat} (hj : j < n) :
    w.cell? ⟨g, j * 2, none⟩ = some (.int .i64 (rAt l j).1) ∧ w.cell? ⟨g, j * 2 + 1, none⟩ = some (.int .i64 (rAt l j).2) ∧ (∀ k, w.frozen? ⟨g, k, none⟩ = false) := by
  rcases h.2 with ⟨h2, _⟩ | ⟨g', cap, cur, hv, hb, hg, h3, h4, h5, h6⟩
  · cases h2
  · injection hv with e1 _ e3
    injection e1 with e1
    injection e1 with e1 _ _
    subst e1 e3
    have hB : Blk w g e cur := hg
    have hat : ∀ i u, i < n * 2 → (cellsR l)[i]? = some u → w.cell? ⟨g, i, none⟩ = some u := fun i u hi hu => by
      rw [← h6, List.getElem?_take, if_pos hi, Array.getElem?_toList] at hu
      exact hB.cell_ i hu
    obtain ⟨a1, a2⟩ := cellsR_at l j (by omega)
    exact ⟨hat _ _ (by omega) a1, hat _ _ (by omega) a2, fun k => hB.frozen k⟩
end Go.Proofs.YtmalmkccgjeboaaDoor

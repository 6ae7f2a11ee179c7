/- Put of the list: plain. -/
import Derived.Test.YtlmjelcnldlagaaLM
set_option linter.unusedVariables false
set_option linter.unusedSimpArgs false
namespace Go.Proofs.Ytlmjelcnldlagaa
open Go.RowKit

/-- One object is made free. -/
def freeOne (M : List Sp) (a : Int) : List Sp := match ofI M a with
  | none => M
  | some j => M.set j ((sAt M j).free a).2
abbrev iAt (l : List Int) (k : Nat) : Int := l.getD k 0
def freeTo (M : List Sp) (o : List Int) : Nat → List Sp
  | 0 => M
  | k + 1 => freeOne (freeTo M o k) (iAt o k)
/-- One of the first k objects is of no span. -/
def badTo (M : List Sp) (o : List Int) : Nat → Bool
  | 0 => false
  | k + 1 => badTo M o k || (isTk M (iAt o k)).2 != 0
/-- One of the first k objects is not taken, or stands there before. -/
def twiceTo (M : List Sp) (o : List Int) : Nat → Bool
  | 0 => false
  | k + 1 => (twiceTo M o k || !(isTk M (iAt o k)).1) || decide (0 ≤ idxOf (o.take k) (iAt o k))
def putE (M : List Sp) (o : List Int) : Int := if badTo M o o.length then 8 else if twiceTo M o o.length then 9 else 0
def putM (M : List Sp) (o : List Int) : List Sp := if putE M o = 0 then keptOf (freeTo M o o.length) else M
def putR (M : List Sp) (o : List Int) : List (Int × Int) := if putE M o = 0 then zeroOf (freeTo M o o.length) else []

/-- What says where a span lies, and how its objects. -/
def Sp.like (s t : Sp) : Prop := s.start = t.start ∧ s.size = t.size ∧ s.pages = t.pages ∧ s.batch = t.batch ∧ s.st.length = t.st.length
theorem Sp.like.idx {s t : Sp} (h : s.like t) (a : Int) : s.idx a = t.idx a := by
  obtain ⟨h1, h2, _, _, h5⟩ := h
  unfold Sp.idx
  rw [h1, h2, h5]
theorem Sp.like.obj {s t : Sp} (h : s.like t) (a : Int) : s.obj a = t.obj a := by
  unfold Sp.obj Sp.at_
  rw [h.idx, h.1, h.2.1]
theorem Sp.like.refl (s : Sp) : s.like s := ⟨rfl, rfl, rfl, rfl, rfl⟩
theorem Sp.like.trans {s t u : Sp} (h : s.like t) (k : t.like u) : s.like u := ⟨h.1.trans k.1, h.2.1.trans k.2.1, h.2.2.1.trans k.2.2.1, h.2.2.2.1.trans k.2.2.2.1, h.2.2.2.2.trans k.2.2.2.2⟩
theorem Sp.free_like (s : Sp) (a : Int) : (s.free a).2.like s := by
  unfold Sp.free
  split
  · exact Sp.like.refl _
  · split
    · exact Sp.like.refl _
    · exact ⟨rfl, rfl, rfl, rfl, by simp [Sp.put]⟩
theorem Sp.take_like (s : Sp) : s.take.2.like s := by
  unfold Sp.take
  split
  · exact Sp.like.refl _
  · exact ⟨rfl, rfl, rfl, rfl, by simp [Sp.put]⟩
/-- Two lists of the same spans, but for what is taken. -/
def Like (M N : List Sp) : Prop := M.length = N.length ∧ ∀ j, j < M.length → (sAt M j).like (sAt N j)
theorem Like.refl (M : List Sp) : Like M M := ⟨rfl, fun _ _ => Sp.like.refl _⟩
theorem Like.trans {M N K : List Sp} (h : Like M N) (k : Like N K) : Like M K := ⟨h.1.trans k.1, fun j hj => (h.2 j hj).trans (k.2 j (by rw [← h.1]; exact hj))⟩
theorem Like.set {M N : List Sp} (h : Like M N) {j : Nat} {s : Sp} (hs : s.like (sAt M j)) : Like (M.set j s) N := by
  refine ⟨by rw [List.length_set]; exact h.1, fun i hi => ?_⟩
  rw [List.length_set] at hi
  by_cases hj : j < M.length
  · rw [sAt_set s hj]
    split
    · rename_i e; subst e; exact hs.trans (h.2 j hj)
    · exact h.2 i hi
  · rw [List.set_eq_of_length_le (by omega)]
    exact h.2 i hi
theorem Like.ofI {M N : List Sp} (h : Like M N) (a : Int) : ofI M a = ofI N a := by
  rcases ofI_cases N a with ⟨h1, h2⟩ | ⟨k, h1, h2, h3, h4⟩
  · rw [h1]
    exact ofI_none (fun j hj => by rw [(h.2 j hj).idx]; exact h2 j (by rw [← h.1]; exact hj))
  · rw [h1]
    have hk : k < M.length := by rw [h.1]; exact h2
    exact ofI_some hk (by rw [(h.2 k hk).idx]; exact h3) (fun j hj => by rw [(h.2 j (by omega)).idx]; exact h4 j hj)
theorem freeOne_like (M : List Sp) (a : Int) : Like (freeOne M a) M := by
  unfold freeOne
  split
  · exact Like.refl _
  · exact (Like.refl M).set (Sp.free_like _ _)
theorem freeTo_like (M : List Sp) (o : List Int) (k : Nat) : Like (freeTo M o k) M := by
  induction k with
  | zero => exact Like.refl _
  | succ k ih => exact (freeOne_like _ _).trans ih

theorem isTk_cases {c : Cl} {M : List Sp} (hg : GoodL c M) (a : Int) : (isTk M a).2 = 0 ∨ (isTk M a).2 = 8 := by
  unfold isTk
  rcases ofI_cases M a with ⟨h1, _⟩ | ⟨k, h1, h2, h3, h4⟩
  · rw [h1]; exact .inr rfl
  · rw [h1]
    show ((sAt M k).tkn a).2 = 0 ∨ ((sAt M k).tkn a).2 = 8
    obtain ⟨_, _, h5⟩ := Sp.obj_range (hg.sp k h2).1 a
    unfold Sp.tkn
    split
    · exact .inl rfl
    · exact h5
/-- An object that is known and taken. -/
theorem isTk_yes {M : List Sp} {a : Int} (h : isTk M a = (true, 0)) : ∃ j, ofI M a = some j ∧ j < M.length ∧ ((sAt M j).obj a).2 = 0 ∧ (sAt M j).st.getD ((sAt M j).obj a).1.toNat 0 = 1 := by
  unfold isTk at h
  rcases ofI_cases M a with ⟨h1, _⟩ | ⟨k, h1, h2, h3, h4⟩
  · rw [h1] at h; cases h
  · rw [h1] at h
    have h' : (sAt M k).tkn a = (true, 0) := h
    unfold Sp.tkn at h'
    split at h'
    · rename_i h5
      injection h' with h6
      exact ⟨k, h1, h2, h5, beq_iff_eq.1 h6⟩
    · rename_i h5
      injection h' with h6
      cases h6
/-- Where an object begins. -/
theorem Sp.obj_addr {s : Sp} {a : Int} (h : (s.obj a).2 = 0) : s.start * 256 + (s.obj a).1 * s.size = a := by
  unfold Sp.obj at h ⊢
  split at h
  · rename_i h1
    rw [if_pos h1]
    split at h
    · rename_i h2
      rw [if_pos h2]
      exact h2
    · cases h
  · rename_i h1
    exact absurd h h1
theorem Sp.free_ok {s : Sp} {a : Int} (h : (s.obj a).2 = 0) (h1 : s.st.getD (s.obj a).1.toNat 0 = 1) : s.free a = (0, s.put (s.obj a).1.toNat 0) := by
  unfold Sp.free
  rw [if_neg (by rw [h]; simp), if_neg (by rw [h1]; decide)]
theorem isTk_of {M : List Sp} {a : Int} {j : Nat} (h : ofI M a = some j) : isTk M a = (sAt M j).tkn a := by unfold isTk; rw [h]
/-- Another object stays as it was. -/
theorem isTk_free {c : Cl} {M : List Sp} (hg : GoodL c M) {a b : Int} (ha : isTk M a = (true, 0)) (hb : isTk M b = (true, 0)) (hab : a ≠ b) : isTk (freeOne M a) b = (true, 0) := by
  obtain ⟨i, i1, i2, i3, i4⟩ := isTk_yes ha
  obtain ⟨j, j1, j2, j3, j4⟩ := isTk_yes hb
  rw [isTk_of (j := j) (by rw [(freeOne_like M a).ofI]; exact j1)]
  have e : freeOne M a = M.set i ((sAt M i).free a).2 := by unfold freeOne; rw [i1]
  rw [e, sAt_set _ i2]
  split
  · rename_i hij
    subst hij
    rw [Sp.free_ok i3 i4]
    have hl := (Sp.free_like (sAt M i) a)
    rw [Sp.free_ok i3 i4] at hl
    unfold Sp.tkn
    rw [hl.obj, if_pos j3]
    have ra := Sp.obj_range (hg.sp i i2).1 a
    have rb := Sp.obj_range (hg.sp i i2).1 b
    have hne : ((sAt M i).obj a).1.toNat ≠ ((sAt M i).obj b).1.toNat := fun h => hab (by
      have h1 := Sp.obj_addr i3
      have h2 := Sp.obj_addr j3
      have h3 : ((sAt M i).obj a).1 = ((sAt M i).obj b).1 := by omega
      rw [h3] at h1
      exact h1.symm.trans h2)
    have : ((sAt M i).put ((sAt M i).obj a).1.toNat 0).st.getD ((sAt M i).obj b).1.toNat 0 = (sAt M i).st.getD ((sAt M i).obj b).1.toNat 0 := by
      simp only [Sp.put, List.getD_eq_getElem?_getD, List.getElem?_set]
      rw [if_neg hne]
    rw [this, j4]
    rfl
  · rw [← isTk_of j1]
    exact hb
theorem GoodL.free {c : Cl} {M : List Sp} (hg : GoodL c M) {a : Int} (ha : isTk M a = (true, 0)) : GoodL c (freeOne M a) := by
  obtain ⟨i, i1, i2, i3, i4⟩ := isTk_yes ha
  have hl := freeOne_like M a
  have e : freeOne M a = M.set i ((sAt M i).free a).2 := by unfold freeOne; rw [i1]
  refine ⟨hg.ok, fun j hj => ?_, fun k j hkj hj => ?_, by rw [hl.1]; exact hg.len⟩
  · have hj' : j < M.length := by rw [← hl.1]; exact hj
    have h1 := hl.2 j hj
    refine ⟨?_, h1.2.1.trans (hg.sp j hj').2.1, h1.2.2.1.trans (hg.sp j hj').2.2.1, h1.2.2.2.1.trans (hg.sp j hj').2.2.2⟩
    rw [e, sAt_set _ i2]
    split
    · rw [Sp.free_ok i3 i4]
      obtain ⟨r1, r2, _⟩ := Sp.obj_range (hg.sp i i2).1 a
      exact (hg.sp i i2).1.put (by omega) (.inl rfl)
    · exact (hg.sp j hj').1
  · have h1 := hl.2 k (by omega)
    have h2 := hl.2 j hj
    rw [h1.1, h1.2.2.1, h2.1]
    exact hg.ord k j hkj (by rw [← hl.1]; exact hj)

/-- As long as the objects are taken, and each stands there once, the next one is taken. -/
theorem freeTo_tk {c : Cl} {M : List Sp} (hg : GoodL c M) {o : List Int} (k : Nat) (hk : k ≤ o.length) (h1 : badTo M o o.length = false) (h2 : twiceTo M o o.length = false) : GoodL c (freeTo M o k) ∧ ∀ j, k ≤ j → j < o.length → isTk (freeTo M o k) (iAt o j) = (true, 0) := by
  have hB : ∀ n, badTo M o n = false → ∀ j, j < n → (isTk M (iAt o j)).2 = 0 := by
    intro n
    induction n with
    | zero => intro _ j hj; omega
    | succ n ih =>
      intro hb j hj
      rw [badTo, Bool.or_eq_false_iff] at hb
      by_cases e : j = n
      · subst e
        have := hb.2
        simpa using this
      · exact ih hb.1 j (by omega)
  have hT : ∀ n, twiceTo M o n = false → ∀ j, j < n → (isTk M (iAt o j)).1 = true ∧ idxOf (o.take j) (iAt o j) < 0 := by
    intro n
    induction n with
    | zero => intro _ j hj; omega
    | succ n ih =>
      intro hb j hj
      rw [twiceTo, Bool.or_eq_false_iff, Bool.or_eq_false_iff] at hb
      by_cases e : j = n
      · subst e
        refine ⟨by simpa using hb.1.2, ?_⟩
        have := of_decide_eq_false hb.2
        omega
      · exact ih hb.1.1 j (by omega)
  have hne : ∀ i j, i < j → j < o.length → iAt o i ≠ iAt o j := by
    intro i j hij hj he
    have h3 := (hT _ h2 j hj).2
    rcases idxOf_cases (o.take j) (iAt o j) with ⟨_, h4⟩ | ⟨k, h4, _⟩
    · exact h4 i (by rw [List.length_take]; omega) (by rw [← he]; simp [iAt, List.getD_eq_getElem?_getD, List.getElem?_take, hij])
    · omega
  induction k with
  | zero =>
    refine ⟨hg, fun j _ hj => ?_⟩
    have a := hB _ h1 j hj
    have b := (hT _ h2 j hj).1
    show isTk M (iAt o j) = _
    exact Prod.ext b a
  | succ k ih =>
    obtain ⟨i1, i2⟩ := ih (by omega)
    have hk0 := i2 k (Nat.le_refl _) (by omega)
    refine ⟨i1.free hk0, fun j hj hjl => ?_⟩
    exact isTk_free i1 hk0 (i2 j (by omega) hjl) (hne k j (by omega) hjl)
end Go.Proofs.Ytlmjelcnldlagaa

/- The span as plain data, and what its methods answer. -/
set_option linter.unusedVariables false
set_option linter.unusedSimpArgs false
namespace Go.Proofs.Ytlmjelcnldlagaa

structure Sp where
  start : Int
  size : Int
  pages : Int
  batch : Int
  many : Int
  st : List Int

structure Sp.Good (s : Sp) : Prop where
  s1 : 8 ≤ s.size
  s2 : s.size ≤ 512
  p1 : 1 ≤ s.pages
  p2 : s.pages ≤ 4
  b1 : 0 ≤ s.start
  b2 : s.start ≤ 1024 - s.pages
  n1 : 1 ≤ s.st.length
  n2 : (s.st.length : Int) * s.size ≤ s.pages * 256
  n3 : s.pages * 256 < ((s.st.length : Int) + 1) * s.size
  bits : ∀ i, i < s.st.length → s.st.getD i 0 = 0 ∨ s.st.getD i 0 = 1
  cnt : s.many = s.st.sum

theorem mul_mono {a b c d : Int} (h1 : a ≤ b) (h2 : c ≤ d) (ha : 0 ≤ a) (hd : 0 ≤ d) : a * c ≤ b * d := by
  exact Int.le_trans (Int.mul_le_mul_of_nonneg_left h2 ha) (Int.mul_le_mul_of_nonneg_right h1 hd)

theorem Sp.Good.len {s : Sp} (h : s.Good) : s.st.length ≤ 128 := by
  have h2 := h.n2
  have h3 := h.p2
  have h4 := h.s1
  have h5 : (s.st.length : Int) * 8 ≤ (s.st.length : Int) * s.size := Int.mul_le_mul_of_nonneg_left h4 (by omega)
  omega

/-- i objects lie within the pages. -/
theorem Sp.Good.off {s : Sp} (h : s.Good) {i : Int} (h0 : 0 ≤ i) (h1 : i ≤ s.st.length) : 0 ≤ i * s.size ∧ i * s.size ≤ s.pages * 256 := by
  have h2 := h.n2
  have h4 := h.s1
  have h5 : i * s.size ≤ (s.st.length : Int) * s.size := Int.mul_le_mul_of_nonneg_right h1 (by omega)
  have h6 : 0 * s.size ≤ i * s.size := Int.mul_le_mul_of_nonneg_right h0 (by omega)
  omega

def Sp.at_ (s : Sp) (i : Int) : Int := s.start * 256 + i * s.size
def Sp.idx (s : Sp) (a : Int) : Int × Int :=
  if a < s.start * 256 then (0, 8) else if (s.st.length : Int) * s.size ≤ a - s.start * 256 then (0, 8) else ((a - s.start * 256) / s.size, 0)
def Sp.obj (s : Sp) (a : Int) : Int × Int := if (s.idx a).2 = 0 then (if s.at_ (s.idx a).1 = a then s.idx a else (0, 8)) else s.idx a

/-- slices.Index. -/
def idxOf (l : List Int) (v : Int) : Int := match l.findIdx? (· == v) with | some k => k | none => -1
theorem idxOf_at {l : List Int} {v : Int} {k : Nat} (hk : k < l.length) (hv : l.getD k 0 = v) (hn : ∀ j, j < k → l.getD j 0 ≠ v) : idxOf l v = k := by
  have : l.findIdx? (· == v) = some k := by
    rw [List.findIdx?_eq_some_iff_getElem]
    refine ⟨hk, ?_, fun j hj => ?_⟩
    · simpa [List.getD_eq_getElem?_getD, List.getElem?_eq_getElem hk] using hv
    · have := hn j hj
      simpa [List.getD_eq_getElem?_getD, List.getElem?_eq_getElem (show j < l.length by omega)] using this
  unfold idxOf
  rw [this]
theorem idxOf_none {l : List Int} {v : Int} (hn : ∀ j, j < l.length → l.getD j 0 ≠ v) : idxOf l v = -1 := by
  have : l.findIdx? (· == v) = none := by
    rw [List.findIdx?_eq_none_iff]
    intro x hx
    obtain ⟨j, hj, rfl⟩ := List.getElem_of_mem hx
    have := hn j hj
    simpa [List.getD_eq_getElem?_getD, List.getElem?_eq_getElem hj] using this
  unfold idxOf
  rw [this]

/-- Object i gets the state v. -/
def Sp.put (s : Sp) (i : Nat) (v : Int) : Sp := { s with many := s.many + (v - s.st.getD i 0), st := s.st.set i v }
theorem sum_set (l : List Int) (i : Nat) (v : Int) (hi : i < l.length) : (l.set i v).sum = l.sum + (v - l.getD i 0) := by
  induction l generalizing i with
  | nil => simp at hi
  | cons x l ih =>
    cases i with
    | zero => simp; omega
    | succ i =>
      have := ih i (by simpa using hi)
      simp only [List.set_cons_succ, List.sum_cons, List.getD_cons_succ, this]
      omega
theorem Sp.Good.put {s : Sp} (h : s.Good) {i : Nat} (hi : i < s.st.length) {v : Int} (hv : v = 0 ∨ v = 1) : (s.put i v).Good where
  s1 := h.s1
  s2 := h.s2
  p1 := h.p1
  p2 := h.p2
  b1 := h.b1
  b2 := h.b2
  n1 := by simpa [Sp.put] using h.n1
  n2 := by simpa [Sp.put] using h.n2
  n3 := by simpa [Sp.put] using h.n3
  bits := by
    intro j hj
    have hj' : j < s.st.length := by simpa [Sp.put] using hj
    have := h.bits j hj'
    simp only [Sp.put, List.getD_eq_getElem?_getD, List.getElem?_set] at this ⊢
    split
    · simp [hv]
    · exact this
  cnt := by
    simp only [Sp.put]
    rw [sum_set _ _ _ hi, h.cnt]
theorem sum_range (l : List Int) (h : ∀ i, i < l.length → l.getD i 0 = 0 ∨ l.getD i 0 = 1) : 0 ≤ l.sum ∧ l.sum ≤ l.length := by
  induction l with
  | nil => simp
  | cons x l ih =>
    have h0 := h 0 (by simp)
    have := ih (fun i hi => by simpa using h (i + 1) (by simpa using hi))
    simp at h0 ⊢
    omega
theorem Sp.Good.many {s : Sp} (h : s.Good) : 0 ≤ s.many ∧ s.many ≤ s.st.length := by rw [h.cnt]; exact sum_range _ h.bits

/-- Take: the answer, and the span behind it. -/
def Sp.take (s : Sp) : (Int × Int) × Sp := if idxOf s.st 0 < 0 then ((0, 6), s) else ((s.at_ (idxOf s.st 0), 0), s.put (idxOf s.st 0).toNat 1)
/-- Put: the answer, and the span behind it. -/
def Sp.free (s : Sp) (a : Int) : Int × Sp :=
  if (s.obj a).2 ≠ 0 then ((s.obj a).2, s) else if s.st.getD (s.obj a).1.toNat 0 = 0 then (9, s) else (0, s.put (s.obj a).1.toNat 0)
theorem idxOf_cases (l : List Int) (v : Int) : (idxOf l v = -1 ∧ ∀ j, j < l.length → l.getD j 0 ≠ v) ∨ ∃ k : Nat, idxOf l v = k ∧ k < l.length ∧ l.getD k 0 = v ∧ ∀ j, j < k → l.getD j 0 ≠ v := by
  cases hf : l.findIdx? (· == v) with
  | none =>
    refine .inl ⟨by simp [idxOf, hf], fun j hj => ?_⟩
    rw [List.findIdx?_eq_none_iff] at hf
    have := hf l[j] (List.getElem_mem hj)
    simpa [List.getD_eq_getElem?_getD, List.getElem?_eq_getElem hj] using this
  | some k =>
    rw [List.findIdx?_eq_some_iff_getElem] at hf
    obtain ⟨hk, h1, h2⟩ := hf
    have hv : l.getD k 0 = v := by simpa [List.getD_eq_getElem?_getD, List.getElem?_eq_getElem hk] using h1
    have hn : ∀ j, j < k → l.getD j 0 ≠ v := fun j hj => by
      have := h2 j hj
      simpa [List.getD_eq_getElem?_getD, List.getElem?_eq_getElem (show j < l.length by omega)] using this
    exact .inr ⟨k, idxOf_at hk hv hn, hk, hv, hn⟩
end Go.Proofs.Ytlmjelcnldlagaa

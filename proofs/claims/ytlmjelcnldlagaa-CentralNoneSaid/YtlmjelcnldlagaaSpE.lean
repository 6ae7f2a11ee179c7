/- Contracts of the span's methods that write: mark, Take, Put. -/
import Derived.Test.YtlmjelcnldlagaaSpD
set_option linter.unusedVariables false
set_option linter.unusedSimpArgs false
namespace Go.Proofs.Ytlmjelcnldlagaa
open Go.RowKit

theorem SpanAt.stored {w p q cap s} (h : SpanAt w p q cap s) {i : Nat} (hi : i < s.st.length) {v : Int} (hv : v = 0 ∨ v = 1) {m : Int} (hm : m = s.many + (v - s.st.getD i 0)) :
    SpanAt ((w.setCell ⟨p, 5, none⟩ (.int .i64 m)).drew.setCell ⟨q, i, none⟩ (.int .i64 v)) p q cap (s.put i v) := by
  obtain ⟨cs, hb, hc⟩ := h.row
  have hne := h.ne
  subst hm
  refine ⟨?_, ⟨cs.setIfInBounds i (.int .i64 v), ?_, ?_⟩, h.good.put hi hv⟩
  · have := (((h.head.set_ 5 (.int .i64 (s.many + (v - s.st.getD i 0)))).drew).far (p := ⟨q, i, none⟩) hne (.int .i64 v))
    simpa [Sp.put] using this
  · exact ((hb.far (p := ⟨p, 5, none⟩) (Ne.symm hne) _).drew).set_ i _
  · intro j hj
    have hj' : j < s.st.length := by simpa [Sp.put] using hj
    have hcj := hc j hj'
    by_cases e : i = j
    · subst e
      have hsz : i < cs.size := by rcases Nat.lt_or_ge i cs.size with h1 | h1; exact h1; rw [Array.getElem?_eq_none h1] at hcj; cases hcj
      simp [Sp.put, Array.getElem?_setIfInBounds, hsz, hj', List.getD_eq_getElem?_getD]
    · simp only [Sp.put, Array.getElem?_setIfInBounds, e, if_false, List.getD_eq_getElem?_getD, List.getElem?_set]
      simpa [List.getD_eq_getElem?_getD] using hcj

set_option maxHeartbeats 800000 in
theorem mark_at {w p q cap s} (h : SpanAt w p q cap s) (r c : Nat) (i : Nat) (hi : i < s.st.length) (v : Int) (hv : v = 0 ∨ v = 1) (hr : w.cell? ⟨r, 0, none⟩ = some (.int .i64 i)) (hrp : r ≠ p) (hrq : r ≠ q) :
    Calls Try.prog 73 #[.pointer (some ⟨p, 0, none⟩), .int .i64 v, .slice (some ⟨r, 0, none⟩) 1 c] w fun e w' => e = .returned (.tuple #[]) ∧ SpanAt w' p q cap (s.put i v) ∧ Only [p, q] w w' := by
  have h4 := h.c4
  have h5 := h.c5
  have hx := h.at_ i hi
  have hl := h.good.len
  have hx1 : 0 ≤ s.st.getD i 0 ∧ s.st.getD i 0 ≤ 1 := by have := h.good.bits i hi; omega
  obtain ⟨hx2, hx3⟩ := hx1
  obtain ⟨hm1, hm2⟩ := h.good.many
  obtain ⟨hv1, hv2⟩ : 0 ≤ v ∧ v ≤ 1 := by omega
  obtain ⟨cs, hb, hc⟩ := h.row
  have fz := h.head.frozen 5
  have fq := hb.frozen i
  have hne := h.ne
  have hne' := Ne.symm hne
  have FIN := Lib.hid (h.stored hi hv rfl)
  have HV := Lib.hid hv
  clear hv hc h
  generalize s.st.getD i 0 = x at *
  generalize s.st.length = n at *
  go_enter Try.func73, Try.ntmps73
  go_wp2
  refine wp_loop_rounds 2 ?_
  rw [rounds_succ]
  go_wp2
  go_region
  go_wp2
  rw [rounds_succ]
  go_wp2
  go_end0
  refine ⟨rfl, FIN.out, ?_⟩
  exact ((Only.refl [p, q] w).setCell (p := ⟨p, 5, none⟩) (.inl (by simp)) _).drew.setCell (p := ⟨q, i, none⟩) (.inl (by simp)) _
end Go.Proofs.Ytlmjelcnldlagaa

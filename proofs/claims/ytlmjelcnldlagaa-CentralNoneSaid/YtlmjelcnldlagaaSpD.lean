/- Contracts of the span's methods that write: slices.Index, mark, Take, Put. -/
import Derived.Test.YtlmjelcnldlagaaSpC
set_option linter.unusedVariables false
set_option linter.unusedSimpArgs false
namespace Go.Proofs.Ytlmjelcnldlagaa
open Go.RowKit

/-- A slice of ints reads as the list. -/
def ReadsI (w : World) (A : Option Addr) (n : Nat) (l : List Int) : Prop := l.length = n ∧ (0 < n → ∃ ad, A = some ad ∧ ∀ j, j < n → w.cell? (ad.add j) = some (.int .i64 (l.getD j 0)))

theorem add_plain (g j : Nat) : (⟨g, 0, none⟩ : Addr).add j = ⟨g, j, none⟩ := by unfold Addr.add; split <;> simp_all
theorem SpanAt.reads {w p q cap s} (h : SpanAt w p q cap s) : ReadsI w (some ⟨q, 0, none⟩) s.st.length s.st := ⟨rfl, fun _ => ⟨_, rfl, fun j hj => by rw [add_plain]; exact h.at_ j hj⟩⟩

set_option maxHeartbeats 400000 in
theorem sindex_any (w : World) (A : Option Addr) (n cap : Nat) (l : List Int) (v : Int) (h : ReadsI w A n l) (hn : n ≤ 4611686018427387904) : Still Try.prog 70 #[.slice A n cap, .int .i64 v] w (.int .i64 (idxOf l v)) := by
  obtain ⟨hl, hc⟩ := h
  have HL := Lib.hid hl
  clear hl
  go_enter Try.func70, Try.ntmps70
  go_wp2
  go_loop [8] (fun t => ∃ k : Nat, k ≤ n ∧ t = .int .i64 k ∧ Hid (∀ j, j < k → l.getD j 0 ≠ v)) (fun t => n - (intOf t).toNat)
  case atStart => exact ⟨0, Nat.zero_le _, rfl, fun j hj => absurd hj (by omega)⟩
  case round =>
    obtain ⟨k, hk, rfl, HN⟩ := hrel
    by_cases hlt : k < n
    · obtain ⟨ad, rfl, hcc⟩ := hc (by omega)
      have hx := hcc k hlt
      clear hcc hc
      by_cases hv : l.getD k 0 = v
      · have HI := Lib.hid (idxOf_at (by rw [HL.out]; exact hlt) hv HN.out)
        have d1 : (v == l.getD k 0) = true := by rw [hv]; simp
        clear hv
        generalize l.getD k 0 = x at *
        go_wp2
        go_ret
        exact ⟨by rw [HI.out]; rfl, rfl⟩
      · have HN' : Hid (∀ j, j < k + 1 → l.getD j 0 ≠ v) := fun j hj => by
          rcases Nat.lt_or_ge j k with h1 | h1
          · exact HN.out j h1
          · rw [show j = k by omega]; exact hv
        have d1 : (v == l.getD k 0) = false := beq_eq_false_iff_ne.2 (fun e => hv e.symm)
        clear hv
        generalize l.getD k 0 = x at hx d1
        go_wp2
        go_round
        case rel => exact ⟨k + 1, by omega, by go_num, HN'⟩
        case measure => simp [intOf]; omega
    · have HI := Lib.hid (idxOf_none (l := l) (v := v) (fun j hj => HN.out j (by rw [HL.out] at hj; omega)))
      clear hc
      go_wp2
      go_ret
      exact ⟨by rw [HI.out]; rfl, rfl⟩

end Go.Proofs.Ytlmjelcnldlagaa

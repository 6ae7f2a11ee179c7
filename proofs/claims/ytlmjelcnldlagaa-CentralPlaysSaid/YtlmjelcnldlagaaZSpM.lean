/- The reference's Objects and Tail. -/
import Derived.Test.YtlmjelcnldlagaaPA
set_option linter.unusedVariables false
set_option linter.unusedSimpArgs false
namespace Go.Proofs.Ytlmjelcnldlagaa
open Go.RowKit

set_option maxHeartbeats 800000 in
theorem robj_any (w : World) (size pages batch : Int) (h : oneP size pages batch) : Grew Try.prog 20 #[.agg #[.int .i64 size, .int .i64 pages, .int .i64 batch]] w (.int .i64 (pages * 256 / size)) := by
  obtain ⟨h1, h2, h3, h4, h5, h6, h7, h8⟩ := h
  clear h3
  have b := Blk.new w 23 #[.int .i64 size, .int .i64 pages, .int .i64 batch]
  have ho := (Only.refl [] w).alloc (.cells #[.int .i64 size, .int .i64 pages, .int .i64 batch] 23)
  have q0 : 0 ≤ pages * 256 / size := Int.ediv_nonneg (by omega) (by omega)
  have q1 : pages * 256 / size * size ≤ pages * 256 := Int.ediv_mul_le _ (by omega)
  have q2 : pages * 256 < (pages * 256 / size + 1) * size := Int.lt_ediv_add_one_mul_self _ (by omega)
  obtain ⟨N, hN⟩ := Int.eq_ofNat_of_zero_le q0
  rw [hN] at q1 q2 ⊢
  clear hN q0
  have q3 : (N : Int) * 8 ≤ N * size := Int.mul_le_mul_of_nonneg_left h1 (by omega)
  have q4 : (N : Int) ≤ 128 := by omega
  have q5 : ((N : Int) + 1) * size ≤ 2000 := by rw [Int.add_mul]; omega
  go_enter Try.func20, Try.ntmps20
  go_wp2_with fail
  generalize w.alloc (.cells #[.int .i64 size, .int .i64 pages, .int .i64 batch] 23) = w1 at *
  have b0 := b.cell_ 0 rfl
  have b1 := b.cell_ 1 rfl
  go_loop [3] (fun t => ∃ k : Nat, k ≤ N ∧ t = .int .i64 k) (fun t => N + 1 - (intOf t).toNat)
  case atStart => exact ⟨0, Nat.zero_le _, rfl⟩
  case round =>
    obtain ⟨k, hk, rfl⟩ := hrel
    have m0 : 0 ≤ ((k : Int) + 1) * size := Int.mul_nonneg (by omega) (by omega)
    have m1 : ((k : Int) + 1) * size ≤ ((N : Int) + 1) * size := Int.mul_le_mul_of_nonneg_right (by omega) (by omega)
    by_cases hlt : k < N
    · have m2 : ((k : Int) + 1) * size ≤ (N : Int) * size := Int.mul_le_mul_of_nonneg_right (by omega) (by omega)
      have d1 : decide (((k : Int) + 1) * size ≤ pages * 256) = true := decide_eq_true (by omega)
      go_wp2
      go_round
      case rel => exact ⟨k + 1, by omega, by go_num⟩
      case measure => simp [intOf]; omega
    · have e : k = N := by omega
      subst e
      have d1 : decide (((k : Int) + 1) * size ≤ pages * 256) = false := decide_eq_false (by omega)
      go_wp2
      go_ret
      exact ⟨rfl, ho⟩

end Go.Proofs.Ytlmjelcnldlagaa

/- Contracts of sizes.power and the reference's Power. -/
import Derived.Test.YtgicapdiiknbiaaSzA
set_option linter.unusedVariables false
set_option linter.unusedSimpArgs false
namespace Go.Proofs.Ytgicapdiiknbiaa
open Go.RowKit

/-- A power of two and the next. -/
def Pq (p q : Int) : Prop := (p = 0 ∧ q = 1) ∨ (p = 1 ∧ q = 2) ∨ (p = 2 ∧ q = 4) ∨ (p = 4 ∧ q = 8) ∨ (p = 8 ∧ q = 16) ∨ (p = 16 ∧ q = 32) ∨ (p = 32 ∧ q = 64) ∨ (p = 64 ∧ q = 128) ∨ (p = 128 ∧ q = 256) ∨ (p = 256 ∧ q = 512)
theorem Pq.next {p q : Int} (h : Pq p q) (hq : q ≤ 256) : Pq q (q * 2) := by
  unfold Pq at h
  rcases h with ⟨_, rfl⟩ | ⟨_, rfl⟩ | ⟨_, rfl⟩ | ⟨_, rfl⟩ | ⟨_, rfl⟩ | ⟨_, rfl⟩ | ⟨_, rfl⟩ | ⟨_, rfl⟩ | ⟨_, rfl⟩ | ⟨_, rfl⟩ <;> unfold Pq <;> first | omega | decide
theorem Pq.pw {p q n : Int} (h : Pq p q) (h1 : p ≤ n) (h2 : n < q) (h3 : n ≤ 256) : pw n = p := by
  unfold Pq at h
  rcases h with ⟨rfl, rfl⟩ | ⟨rfl, rfl⟩ | ⟨rfl, rfl⟩ | ⟨rfl, rfl⟩ | ⟨rfl, rfl⟩ | ⟨rfl, rfl⟩ | ⟨rfl, rfl⟩ | ⟨rfl, rfl⟩ | ⟨rfl, rfl⟩ | ⟨rfl, rfl⟩ <;> unfold Go.Proofs.Ytgicapdiiknbiaa.pw <;> omega

set_option maxHeartbeats 800000 in
theorem power_any (w : World) (n : Int) (h0 : 0 ≤ n) (h1 : n ≤ 256) : Still Try.prog 37 #[.int .i64 n] w (.int .i64 (pw n)) := by
  go_enter Try.func37, Try.ntmps37
  go_wp2_with fail
  go_loop [3, 4] (fun u t => ∃ p q : Int, u = .int .i64 p ∧ t = .int .i64 q ∧ p ≤ n ∧ 1 ≤ q ∧ q ≤ 512 ∧ Hid (Pq p q)) (fun _ t => 1024 - (intOf t).toNat)
  case atStart => exact ⟨0, 1, rfl, rfl, h0, by omega, by omega, Or.inl ⟨rfl, rfl⟩⟩
  case round =>
    obtain ⟨p, q, rfl, rfl, hp, hq, hq2, HD⟩ := hrel
    by_cases hlt : q ≤ n
    · have d1 : decide (q ≤ n) = true := decide_eq_true hlt
      have HN := Lib.hid (Pq.next HD.out (by omega))
      go_wp2
      go_round
      case rel => exact ⟨q, q * 2, rfl, rfl, hlt, by omega, by omega, HN⟩
      case measure => simp [intOf]; omega
    · have d1 : decide (q ≤ n) = false := decide_eq_false hlt
      have HE := Lib.hid (Pq.pw HD.out hp (by omega) h1)
      go_wp2
      go_ret
      exact ⟨by rw [HE.out]; rfl, rfl⟩

set_option maxHeartbeats 800000 in
theorem rPower_any (w : World) (n : Int) : Still Try.prog 40 #[.int .i64 n, .int .i64 256] w (.bool (decide (isPow n))) := by
  go_enter Try.func40, Try.ntmps40
  go_wp2_with fail
  go_loop [5] (fun t => ∃ q : Int, t = .int .i64 q ∧ 1 ≤ q ∧ q ≤ 512 ∧ Hid (isPow q ∨ q = 512) ∧ Hid (isPow n → q ≤ n)) (fun t => 1024 - (intOf t).toNat)
  case atStart => exact ⟨1, rfl, by omega, by omega, by show _ ∨ _; unfold isPow; omega, by show _ → _; unfold isPow; omega⟩
  case round =>
    obtain ⟨q, rfl, hq, hq2, HD, HN⟩ := hrel
    by_cases hlt : q ≤ 256
    · by_cases he : q = n
      · have d1 : (q == n) = true := beq_iff_eq.2 he
        have hp : isPow n := by rcases HD.out with h | h; rw [← he]; exact h; omega
        clear he
        go_wp2
        go_ret
        exact ⟨rfl, rfl⟩
      · have d1 : (q == n) = false := beq_eq_false_iff_ne.2 he
        have H1 : Hid (isPow (2 * q) ∨ 2 * q = 512) := by have := HD.out; show _ ∨ _; unfold isPow at *; omega
        have H2 : Hid (isPow n → 2 * q ≤ n) := by have := HN.out; have := HD.out; show _ → _; unfold isPow at *; omega
        clear he
        go_wp2
        go_round
        case rel => exact ⟨2 * q, rfl, by omega, by omega, H1, H2⟩
        case measure => simp [intOf]; omega
    · have hp : ¬ isPow n := fun h => by have h1 := HN.out h; unfold isPow at h; omega
      go_wp2
      go_ret
      exact ⟨rfl, rfl⟩
end Go.Proofs.Ytgicapdiiknbiaa

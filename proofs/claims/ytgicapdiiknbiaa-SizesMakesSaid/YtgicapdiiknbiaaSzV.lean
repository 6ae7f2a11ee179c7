/- The reference's Make at a bad waste, Same, and the walk of SizesMakes. -/
import Derived.Test.YtgicapdiiknbiaaSzU
import Derived.Test.YtgicapdiiknbiaaSzN
set_option linter.unusedVariables false
set_option linter.unusedSimpArgs false
namespace Go.Proofs.Ytgicapdiiknbiaa
open Go.RowKit

theorem rMake_bad (w : World) (waste : Int) (h : waste < 2 ∨ 16 < waste) : Grew Try.prog 23 #[.int .i64 waste] w (.tuple #[.slice none 0 0, .int .i64 1]) := by
  by_cases h1 : waste < 2
  · have d1 : decide (waste < 2) = true := decide_eq_true h1
    go_enter Try.func23, Try.ntmps23
    go_wp2_with fail
    go_ret2
    exact ⟨rfl, Only.refl [] w⟩
  · have d1 : decide (waste < 2) = false := decide_eq_false h1
    have d2 : decide (16 < waste) = true := decide_eq_true (by omega)
    go_enter Try.func23, Try.ntmps23
    go_wp2_with fail
    go_ret2
    exact ⟨rfl, Only.refl [] w⟩

set_option maxHeartbeats 1600000 in
theorem Same_any (w : World) (A B : Option Addr) (n c c' : Nat) (l : List Cl) (hr : ReadsC w A n l) (hr' : ReadsC w B n l) (hn : n ≤ 200) : Grew Try.prog 24 #[.slice A n c, .slice B n c'] w (.bool true) := by
  have HR := Lib.hid hr
  have HR' := Lib.hid hr'
  clear hr hr'
  go_enter Try.func24, Try.ntmps24
  go_wp2_with fail
  go_loopw [5] (fun t wr => ∃ k : Nat, k ≤ n ∧ t = .int .i64 k ∧ Only [] w wr) (fun t _ => n - (intOf t).toNat)
  case atStart => exact ⟨0, Nat.zero_le _, rfl, Only.refl _ _⟩
  case round =>
    obtain ⟨k, hk, rfl, ho⟩ := hrel
    by_cases hlt : k < n
    · have d1 : decide ((k : Int) < n) = true := decide_eq_true (by omega)
      obtain ⟨ad, rfl, c1, c2, c3⟩ := (HR.out.still ho).at_ hlt
      obtain ⟨ad', rfl, b1, b2, b3⟩ := (HR'.out.still ho).at_ hlt
      generalize cAt l k = x at *
      have g1 := cell_after c1
      have g2 := cell_after c2
      have g3 := cell_after c3
      have e1 := cell_after b1
      have e2 := cell_after b2
      have e3 := cell_after b3
      clear c1 c2 c3 b1 b2 b3
      go_wp2_with fail
      refine wp_region_grew (by kernel_rfl) (by kernel_rfl) ?_
      repeat (go_big_quiet_step (fail))
      refine wpQuiet_nil ?_
      rintro w2 ⟨⟨_, ho2⟩, rfl⟩
      go_wp2_with fail
      go_roundw
      case rel => exact ⟨k + 1, by omega, by go_num, ho.trans ho2⟩
      case measure => simp [intOf]; omega
    · have e : k = n := by omega
      subst e
      go_wp2_with fail
      go_ret
      exact ⟨rfl, ho⟩
theorem ReadsC.none (w : World) : ReadsC w none 0 [] := ⟨rfl, fun j h => absurd h (by omega), fun h => absurd h (by omega)⟩

set_option maxRecDepth 100000 in
set_option maxHeartbeats 4000000 in
theorem SizesMakes_walk (w : World) (waste : Int) (_ : I64 waste) : Grew Try.prog 4 #[.int .i64 waste] w (.bool true) := by
  by_cases hw : 2 ≤ waste ∧ waste ≤ 16
  · go_enter Try.func4, Try.ntmps4
    go_wp2_with fail
    refine (Make_reads w waste hw.1 hw.2).mono ?_
    rintro e w1 ⟨A, n, c, rfl, hr, hg, ho1⟩
    go_wp2_with fail
    refine (rMake_any w1 waste hw.1 hw.2).mono ?_
    rintro e w2 ⟨v, rfl, hown, ho2⟩
    obtain ⟨B, c', rfl, hr', hB⟩ := own_reads rfl hown (make_good waste hw.1 hw.2).I64
    rw [hr.1] at hr' ⊢
    have HS := Lib.hid (Same_any w2 A B n c c' _ (hr.still ho2) hr' (by have := hg.1.2.1; have := hr.1; omega))
    clear hr hg hr' hown hB
    go_wp2_with (first | (go_at_call 24; with_reducible refine Grew.use HS.out (fun w3 ho3 => ?_)) | (go_at_call 14; with_reducible refine Grew.use (alive_any _) (fun w5 ho5 => ?_)))
    go_ret
    exact ⟨rfl, ho1.trans (ho2.trans (ho3.trans ho5))⟩
  · have H := Lib.hid (Make_bad w waste (by omega))
    have H2 := Lib.hid (fun W => rMake_bad W waste (by omega))
    have H3 := Lib.hid (fun W => Same_any W none none 0 0 0 [] (ReadsC.none W) (ReadsC.none W) (by omega))
    go_enter Try.func4, Try.ntmps4
    go_wp2_with (first | (go_at_call 22; with_reducible refine Grew.use H.out (fun w1 ho1 => ?_)) | (go_at_call 23; with_reducible refine Grew.use (H2.out _) (fun w2 ho2 => ?_)) | (go_at_call 24; with_reducible refine Grew.use (H3.out _) (fun w3 ho3 => ?_)) | (go_at_call 14; with_reducible refine Grew.use (alive_any _) (fun w5 ho5 => ?_)))
    go_ret
    exact ⟨rfl, ho1.trans (ho2.trans (ho3.trans ho5))⟩
end Go.Proofs.Ytgicapdiiknbiaa

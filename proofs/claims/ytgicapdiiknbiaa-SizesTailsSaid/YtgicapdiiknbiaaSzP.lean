/- The walk of SizesTails. -/
import Derived.Test.YtgicapdiiknbiaaSzN
set_option linter.unusedVariables false
set_option linter.unusedSimpArgs false
namespace Go.Proofs.Ytgicapdiiknbiaa
open Go.RowKit

set_option maxRecDepth 100000 in
set_option maxHeartbeats 4000000 in
theorem SizesTails_walk (w : World) (waste : Int) (_ : I64 waste) (at' : Int) (hat : 0 ≤ at' ∧ at' ≤ 255) :
    Grew Try.prog 8 #[.int .i64 waste, .int .u8 at'] w (.bool true) := by
  by_cases hw : 2 ≤ waste ∧ waste ≤ 16
  · go_enter Try.func8, Try.ntmps8
    go_wp2_with fail
    refine (Make_reads w waste hw.1 hw.2).mono ?_
    rintro e w1 ⟨A, n, c, rfl, hr, hg, ho1⟩
    have hn : n ≤ 40 := by have := hg.1.2.1; have := hr.1; omega
    have hn2 : 2 ≤ n := by have := hg.2.1; have := hr.1; omega
    have d3 : ((n : Int) == 0) = false := beq_eq_false_iff_ne.2 (by omega)
    obtain ⟨k, hk, hkn⟩ : ∃ k : Nat, at' % (n : Int) = k ∧ k < n := ⟨(at' % (n : Int)).toNat, by have := Int.emod_nonneg at' (show (n : Int) ≠ 0 by omega); omega, by have := Int.emod_lt_of_pos at' (show (0 : Int) < n by omega); omega⟩
    obtain ⟨ad, rfl, p0, p1, p2⟩ := hr.at_ hkn
    have hok := (hg.1.2.2 k (by rw [hr.1]; exact hkn)).1
    have ht := (hg.2.2.2.2.1 k (by rw [hr.1]; exact hkn)).1
    clear hr hg
    generalize cAt (makeC waste) k = x at *
    have hnf := Cl.n_facts hok.small
    have htt : x.t = x.p * 256 - x.n * x.s := rfl
    have hn1 : 1 ≤ x.n := by
      obtain ⟨h1, h2, h3, h4, h5, h6, h7, h8⟩ := hok
      rcases (by omega : x.n < 1 ∨ 1 ≤ x.n) with h | h
      · have : x.n = 0 := by omega
        have := hnf.2.2.1
        simp_all
        omega
      · exact h
    have CO := fun W => Objects_any W x
    have CT := fun W => Tail_any W x
    simp only [if_pos hok] at CO CT
    unfold Cl.val at CO CT
    have HO := Lib.hid CO
    have HT := Lib.hid CT
    have hp4 := hok.2.2.2
    have hs8 := hok
    unfold Cl.ok oneP at hs8
    clear CO CT
    obtain ⟨s, p, b⟩ := x
    generalize Cl.n ⟨s, p, b⟩ = x at *
    generalize Cl.t ⟨s, p, b⟩ = y at *
    dsimp only at *
    have f1 : decide (1 ≤ x) = true := decide_eq_true hn1
    have f2 : decide (0 ≤ y) = true := decide_eq_true (by omega)
    have f3 : (y + x * s == p * 256) = true := beq_iff_eq.2 (by omega)
    have g1 : 0 ≤ x * s ∧ x * s ≤ 1024 := by omega
    have g2 : 0 ≤ y ∧ y ≤ 1024 := by omega
    have g3 : 0 ≤ waste * y ∧ waste * y ≤ 16384 := ⟨Int.mul_nonneg (by omega) g2.1, by have := Int.mul_le_mul hw.2 g2.2 g2.1 (by omega); omega⟩
    clear hnf hn1 htt hok hp4
    have hz : 16 * 64 = 1024 := rfl
    have bX := Blk.new w1 24 #[.int .i64 s, .int .i64 p, .int .i64 b]
    have hoX := (Only.refl [] w1).alloc (.cells #[.int .i64 s, .int .i64 p, .int .i64 b] 24)
    by_cases h4 : p = 4
    · subst h4
      have f4 : (y + x * s == 1024) = true := by simpa using f3
      go_wp2_with fail
      generalize (w1.alloc (.cells #[.int .i64 s, .int .i64 4, .int .i64 b] 24)) = w2 at *
      refine Grew.use (HT.out _) (fun w3 ho3 => ?_)
      have z0 := cell_after (bX.cell_ 0 rfl) ⟨w3, ho3⟩
      have z1 := cell_after (bX.cell_ 1 rfl) ⟨w3, ho3⟩
      have z2 := cell_after (bX.cell_ 2 rfl) ⟨w3, ho3⟩
      go_wp2_with (first
        | (go_at_call 15; with_reducible refine Grew.use (HO.out _) (fun w4 ho4 => ?_); have u0 := cell_after z0 ⟨w4, ho4⟩; have u1 := cell_after z1 ⟨w4, ho4⟩; have u2 := cell_after z2 ⟨w4, ho4⟩; clear z0 z1 z2)
        | (go_at_call 14; with_reducible refine Grew.use (alive_any _) (fun w5 ho5 => ?_)))
      go_ret
      exact ⟨rfl, ho1.trans (hoX.trans (ho3.trans (ho4.trans ho5)))⟩
    · have d4 : (p == 4) = false := beq_eq_false_iff_ne.2 h4
      have d5 : decide (waste * y ≤ p * 256) = true := decide_eq_true (by rcases ht with ht | ht; exact absurd ht h4; exact ht)
      clear ht h4
      go_wp2_with fail
      generalize (w1.alloc (.cells #[.int .i64 s, .int .i64 p, .int .i64 b] 24)) = w2 at *
      refine Grew.use (HT.out _) (fun w3 ho3 => ?_)
      have z0 := cell_after (bX.cell_ 0 rfl) ⟨w3, ho3⟩
      have z1 := cell_after (bX.cell_ 1 rfl) ⟨w3, ho3⟩
      have z2 := cell_after (bX.cell_ 2 rfl) ⟨w3, ho3⟩
      go_wp2_with (first
        | (go_at_call 15; with_reducible refine Grew.use (HO.out _) (fun w4 ho4 => ?_); have u0 := cell_after z0 ⟨w4, ho4⟩; have u1 := cell_after z1 ⟨w4, ho4⟩; have u2 := cell_after z2 ⟨w4, ho4⟩; clear z0 z1 z2)
        | (go_at_call 14; with_reducible refine Grew.use (alive_any _) (fun w5 ho5 => ?_)))
      go_ret
      exact ⟨rfl, ho1.trans (hoX.trans (ho3.trans (ho4.trans ho5)))⟩
  · have H := Lib.hid (Make_bad w waste (by omega))
    go_enter Try.func8, Try.ntmps8
    go_wp2_with (first | (go_at_call 22; with_reducible refine Grew.use H.out (fun w1 ho1 => ?_)) | (go_at_call 14; with_reducible refine Grew.use (alive_any _) (fun w5 ho5 => ?_)))
    go_ret
    exact ⟨rfl, ho1.trans ho5⟩
end Go.Proofs.Ytgicapdiiknbiaa

/- The example of the chapter: alive. -/
import Derived.Test.YtnflfolonfmchaaSpI
set_option linter.unusedVariables false
set_option linter.unusedSimpArgs false
namespace Go.Proofs.Ytnflfolonfmchaa
open Go.RowKit

def E0 : Sp := ⟨16, 24, 1, 21, 0, [0, 0, 0, 0, 0, 0, 0, 0, 0, 0]⟩
def E1 : Sp := ⟨16, 24, 1, 21, 1, [1, 0, 0, 0, 0, 0, 0, 0, 0, 0]⟩
def E2 : Sp := ⟨16, 24, 1, 21, 2, [1, 1, 0, 0, 0, 0, 0, 0, 0, 0]⟩
def E3 : Sp := ⟨16, 24, 1, 21, 1, [0, 1, 0, 0, 0, 0, 0, 0, 0, 0]⟩

section
variable {w : World} {p q cap : Nat}
theorem e_new (w : World) : Calls Try.prog 27 #[.int .i64 16, .agg #[.int .i64 24, .int .i64 1, .int .i64 21]] w fun e w' => ∃ p q cap, e = .returned (.tuple #[.pointer (some ⟨p, 0, none⟩), .int .i64 0]) ∧ SpanAt w' p q cap E0 ∧ w.heap.size ≤ p ∧ w.heap.size ≤ q ∧ Only [] w w' :=
  (New_any w 16 24 1 21 (by omega) (by omega)).mono (by
    rintro e w' ⟨h, _, ho⟩
    obtain ⟨p, q, cap, he, hs, h1, h2⟩ := h (by decide)
    exact ⟨p, q, cap, he, hs, h1, h2, ho⟩)
theorem e_take0 (h : SpanAt w p q cap E0) : Calls Try.prog 22 #[.pointer (some ⟨p, 0, none⟩)] w fun e w' => e = .returned (.tuple #[.int .i64 4096, .int .i64 0]) ∧ SpanAt w' p q cap E1 ∧ Only [p, q] w w' := by
  have := Take_at h
  rwa [show E0.take = ((4096, 0), E1) from rfl] at this
theorem e_take1 (h : SpanAt w p q cap E1) : Calls Try.prog 22 #[.pointer (some ⟨p, 0, none⟩)] w fun e w' => e = .returned (.tuple #[.int .i64 4120, .int .i64 0]) ∧ SpanAt w' p q cap E2 ∧ Only [p, q] w w' := by
  have := Take_at h
  rwa [show E1.take = ((4120, 0), E2) from rfl] at this
theorem e_bits (h : SpanAt w p q cap E2) : Grew Try.prog 18 #[.pointer (some ⟨p, 0, none⟩)] w (.string ⟨#[49, 49, 48, 48, 48, 48, 48, 48, 48, 48]⟩) := by
  have := Bits_at h
  rwa [show E2.bits = ⟨#[49, 49, 48, 48, 48, 48, 48, 48, 48, 48]⟩ from rfl] at this
theorem e_put0 (h : SpanAt w p q cap E2) : Calls Try.prog 23 #[.pointer (some ⟨p, 0, none⟩), .int .i64 4096] w fun e w' => e = .returned (.int .i64 0) ∧ SpanAt w' p q cap E3 ∧ Only [p, q] w w' := by
  have := Put_at h 4096 (by omega) (by omega)
  rwa [show E2.free 4096 = (0, E3) from rfl] at this
theorem e_put1 (h : SpanAt w p q cap E3) : Calls Try.prog 23 #[.pointer (some ⟨p, 0, none⟩), .int .i64 4096] w fun e w' => e = .returned (.int .i64 9) ∧ SpanAt w' p q cap E3 ∧ Only [p, q] w w' := by
  have := Put_at h 4096 (by omega) (by omega)
  rwa [show E3.free 4096 = (9, E3) from rfl] at this
theorem e_put2 (h : SpanAt w p q cap E3) : Calls Try.prog 23 #[.pointer (some ⟨p, 0, none⟩), .int .i64 4100] w fun e w' => e = .returned (.int .i64 8) ∧ SpanAt w' p q cap E3 ∧ Only [p, q] w w' := by
  have := Put_at h 4100 (by omega) (by omega)
  rwa [show E3.free 4100 = (8, E3) from rfl] at this
theorem e_index0 (h : SpanAt w p q cap E3) : Quiet Try.prog 14 #[.pointer (some ⟨p, 0, none⟩), .int .i64 4143] w (.tuple #[.int .i64 1, .int .i64 0]) := by
  have := Index_at h 4143 (by omega) (by omega)
  rwa [show E3.idx 4143 = (1, 0) from rfl] at this
theorem e_index1 (h : SpanAt w p q cap E3) : Quiet Try.prog 14 #[.pointer (some ⟨p, 0, none⟩), .int .i64 4336] w (.tuple #[.int .i64 0, .int .i64 8]) := by
  have := Index_at h 4336 (by omega) (by omega)
  rwa [show E3.idx 4336 = (0, 8) from rfl] at this
end

set_option maxHeartbeats 2000000 in
set_option maxRecDepth 100000 in
theorem alive_any (w : World) : Grew Try.prog 11 #[] w (.bool true) := by
  go_enter Try.func11, Try.ntmps11
  go_wp2_with fail
  refine (e_new w).mono ?_
  rintro e w1 ⟨p, q, cap, rfl, h1, hp, hq, ho1⟩
  go_wp2_with fail
  refine Still.use (Objects_at h1) ?_
  go_wp2_with fail
  refine (e_take0 h1).mono ?_
  rintro e w2 ⟨rfl, h2, ho2⟩
  go_wp2_with fail
  refine (e_take1 h2).mono ?_
  rintro e w3 ⟨rfl, h3, ho3⟩
  go_wp2_with fail
  refine Grew.use (e_bits h3) (fun w4 ho4 => ?_)
  have h4 := h3.only ho4 (by simp) (by simp)
  go_wp2_with fail
  refine (e_put0 h4).mono ?_
  rintro e w5 ⟨rfl, h5, ho5⟩
  go_wp2_with fail
  refine (e_put1 h5).mono ?_
  rintro e w6 ⟨rfl, h6, ho6⟩
  go_wp2_with fail
  refine (e_put2 h6).mono ?_
  rintro e w7 ⟨rfl, h7, ho7⟩
  go_wp2_with fail
  refine Quiet.use (e_index0 h7) (fun n => ?_)
  go_wp2_with fail
  refine Quiet.use (e_index1 (h7.drewN n)) (fun m => ?_)
  go_wp2_with fail
  go_ret
  have ho := (((((ho2.trans ho3).trans ho4.of_nil).trans ho5).trans ho6).trans ho7).drewN (n + m)
  refine ⟨rfl, ho1.then_ ho (fun i hi => ?_)⟩
  have : i = p ∨ i = q := by simpa using hi
  omega
end Go.Proofs.Ytnflfolonfmchaa

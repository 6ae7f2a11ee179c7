/- Same. -/
import Derived.Test.YtnflfolonfmchaaSpX
set_option linter.unusedVariables false
set_option linter.unusedSimpArgs false
namespace Go.Proofs.Ytnflfolonfmchaa
open Go.RowKit

set_option maxRecDepth 100000 in
set_option maxHeartbeats 4000000 in
theorem Same_at {w p q cap p' q' cap' s} (h : SpanAt w p q cap s) (h' : RefAt w p' q' cap' s) :
    Grew Try.prog 31 #[.pointer (some ⟨p, 0, none⟩), .pointer (some ⟨p', 0, none⟩)] w (.bool true) := by
  have hl := h.good.len
  have hll : s.list.length ≤ 128 := by
    have := Sp.list_length h.good
    have := h.good.many.2
    omega
  go_enter Try.func31, Try.ntmps31
  go_wp2_with fail
  refine Still.use (Objects_at h) ?_
  go_wp2_with fail
  refine Still.use (rObjects_at h') ?_
  go_wp2_with fail
  refine Still.use (Taken_at h) ?_
  go_wp2_with fail
  refine Grew.use (rTaken_at h') (fun w1 ho1 => ?_)
  have h1 := h.only ho1 (by simp) (by simp)
  have h1' := h'.only ho1 (by simp) (by simp)
  go_wp2_with fail
  refine Grew.use (Bits_at h1) (fun w2 ho2 => ?_)
  have h2 := h1.only ho2 (by simp) (by simp)
  have h2' := h1'.only ho2 (by simp) (by simp)
  go_wp2_with fail
  refine Still.use (rBits_at h2') ?_
  go_wp2_with fail
  refine (List_at h2).mono ?_
  rintro e w3 ⟨v, rfl, hown, ho3⟩
  obtain ⟨A3, c3, rfl, hr3, _⟩ := own_reads hown
  have h3' := h2'.only ho3 (by simp) (by simp)
  have h3 := h2.only ho3 (by simp) (by simp)
  clear hown
  go_wp2_with fail
  refine (rList_at h3').mono ?_
  rintro e w4 ⟨v, rfl, hown, ho4⟩
  obtain ⟨A4, c4, rfl, hr4, _⟩ := own_reads hown
  have h4' := h3'.only ho4 (by simp) (by simp)
  have h4 := h3.only ho4 (by simp) (by simp)
  have hr3' := hr3.only ho4 (by simp)
  clear hown
  go_wp2_with fail
  refine Quiet.use (ints_same w4 A3 A4 s.list.length c3 c4 s.list hr3' hr4 (by omega)) (fun n => ?_)
  go_wp2_with fail
  refine Grew.use (Run_at (h4.drewN n)) (fun w5 ho5 => ?_)
  have h5 := (h4.drewN n).only ho5 (by simp) (by simp)
  have h5' := (h4'.drewN n).only ho5 (by simp) (by simp)
  go_wp2_with fail
  refine Grew.use (rRun_at h5') (fun w6 ho6 => ?_)
  have h6 := h5.only ho6 (by simp) (by simp)
  have h6' := h5'.only ho6 (by simp) (by simp)
  go_wp2_with fail
  refine Grew.use (Class_at h6) (fun w7 ho7 => ?_)
  have h7' := h6'.only ho7 (by simp) (by simp)
  go_wp2_with fail
  refine Grew.use (rClass_at h7') (fun w8 ho8 => ?_)
  go_wp2_with fail
  go_ret
  exact ⟨rfl, ((((((ho1.trans ho2).trans ho3).trans ho4).drewN n).trans ho5).trans ho6).trans (ho7.trans ho8)⟩

end Go.Proofs.Ytnflfolonfmchaa

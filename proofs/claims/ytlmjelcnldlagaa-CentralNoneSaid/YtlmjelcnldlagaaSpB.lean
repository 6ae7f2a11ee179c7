/- Contracts of the span's methods that look an object up. -/
import Derived.Test.YtlmjelcnldlagaaSpA
set_option linter.unusedVariables false
set_option linter.unusedSimpArgs false
namespace Go.Proofs.Ytlmjelcnldlagaa
open Go.RowKit

set_option maxHeartbeats 800000 in
theorem object_at {w p q cap s} (h : SpanAt w p q cap s) (a : Int) (ha0 : -9223372036854775808 ≤ a) (ha1 : a ≤ 9223372036854775807) : Quiet Try.prog 72 #[.pointer (some ⟨p, 0, none⟩), .int .i64 a] w (.tuple #[.int .i64 (s.obj a).1, .int .i64 (s.obj a).2]) := by
  obtain ⟨r1, r2, r3⟩ := s.idx_range h.good a
  have C := Index_at h a ha0 ha1
  obtain ⟨i, j, hij⟩ : ∃ i j, s.idx a = (i, j) := ⟨_, _, rfl⟩
  rw [hij] at r1 r2 r3 C
  dsimp only at r1 r2 r3 C
  rcases r3 with rfl | rfl
  · by_cases hy : s.start * 256 + i * s.size = a
    · rw [Sp.obj_yes (by rw [hij]) (by rw [hij]; exact hy), hij]
      have d1 : ((s.start * 256 + i * s.size) != a) = false := bne_eq_false_iff_eq.2 hy
      clear hij hy
      have A := fun n => addr_at (h.drewN n) i r1 (by omega)
      have CH := Lib.hid C
      have AH := Lib.hid A
      clear C A
      go_enter Try.func72, Try.ntmps72
      go_wp2_with (first | (go_at_call 71; refine Quiet.use CH.out (fun n => ?_)) | (go_at_call 93; refine Quiet.use (AH.out _) (fun n => ?_)))
      go_ret2
      exact ⟨rfl, (by repeat (first | exact Dr.refl _ | refine Dr.drewN ?_ _ | refine Dr.drew ?_))⟩
    · rw [Sp.obj_no (by rw [hij]) (by rw [hij]; exact hy)]
      have d1 : ((s.start * 256 + i * s.size) != a) = true := bne_iff_ne.2 hy
      clear hij hy
      have A := fun n => addr_at (h.drewN n) i r1 (by omega)
      have CH := Lib.hid C
      have AH := Lib.hid A
      clear C A
      go_enter Try.func72, Try.ntmps72
      go_wp2_with (first | (go_at_call 71; refine Quiet.use CH.out (fun n => ?_)) | (go_at_call 93; refine Quiet.use (AH.out _) (fun n => ?_)))
      go_ret2
      exact ⟨rfl, (by repeat (first | exact Dr.refl _ | refine Dr.drewN ?_ _ | refine Dr.drew ?_))⟩
  · rw [Sp.obj_out (by rw [hij]; simp), hij]
    clear hij
    have CH := Lib.hid C
    clear C
    go_enter Try.func72, Try.ntmps72
    go_wp2_with (first | (go_at_call 71; refine Quiet.use CH.out (fun n => ?_)))
    go_ret2
    exact ⟨rfl, (by repeat (first | exact Dr.refl _ | refine Dr.drewN ?_ _ | refine Dr.drew ?_))⟩

/-- What IsTaken answers. -/
def Sp.tkn (s : Sp) (a : Int) : Bool × Int := if (s.obj a).2 = 0 then (s.st.getD (s.obj a).1.toNat 0 == 1, 0) else (false, (s.obj a).2)

set_option maxHeartbeats 800000 in
theorem IsTaken_at {w p q cap s} (h : SpanAt w p q cap s) (a : Int) (ha0 : -9223372036854775808 ≤ a) (ha1 : a ≤ 9223372036854775807) : Quiet Try.prog 69 #[.pointer (some ⟨p, 0, none⟩), .int .i64 a] w (.tuple #[.bool (s.tkn a).1, .int .i64 (s.tkn a).2]) := by
  obtain ⟨r1, r2, r3⟩ := s.obj_range h.good a
  have C := object_at h a ha0 ha1
  obtain ⟨i, j, hij⟩ : ∃ i j, s.obj a = (i, j) := ⟨_, _, rfl⟩
  rw [hij] at r1 r2 r3 C
  dsimp only at r1 r2 r3 C
  have hl := h.good.len
  have h4 := h.c4
  rcases r3 with rfl | rfl
  · rw [show s.tkn a = (s.st.getD i.toNat 0 == 1, 0) by unfold Sp.tkn; rw [hij]; rfl]
    clear hij
    obtain ⟨k, rfl⟩ := Int.eq_ofNat_of_zero_le r1
    have hk := h.at_ k (by omega)
    rw [Int.toNat_natCast]
    have CH := Lib.hid C
    clear C h
    go_enter Try.func69, Try.ntmps69
    go_wp2_with (first | (go_at_call 72; refine Quiet.use CH.out (fun n => ?_)))
    go_ret2
    exact ⟨by simp, (by repeat (first | exact Dr.refl _ | refine Dr.drewN ?_ _ | refine Dr.drew ?_))⟩
  · rw [show s.tkn a = (false, 8) by unfold Sp.tkn; rw [hij]; rfl]
    clear hij
    have CH := Lib.hid C
    clear C h
    go_enter Try.func69, Try.ntmps69
    go_wp2_with (first | (go_at_call 72; refine Quiet.use CH.out (fun n => ?_)))
    go_ret2
    exact ⟨rfl, (by repeat (first | exact Dr.refl _ | refine Dr.drewN ?_ _ | refine Dr.drew ?_))⟩

set_option maxHeartbeats 400000 in
theorem Objects_at {w p q cap s} (h : SpanAt w p q cap s) : Still Try.prog 47 #[.pointer (some ⟨p, 0, none⟩)] w (.int .i64 s.st.length) := by
  have h4 := h.c4
  go_enter Try.func47, Try.ntmps47
  go_wp2_with (first | (go_at_call 68; refine Still.use (made_at h) ?_))
  go_ret
  exact ⟨rfl, rfl⟩


end Go.Proofs.Ytlmjelcnldlagaa

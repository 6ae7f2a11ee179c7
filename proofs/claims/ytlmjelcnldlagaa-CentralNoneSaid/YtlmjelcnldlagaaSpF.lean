/- Contracts of Take and Put. -/
import Derived.Test.YtlmjelcnldlagaaSpE
set_option linter.unusedVariables false
set_option linter.unusedSimpArgs false
namespace Go.Proofs.Ytlmjelcnldlagaa
open Go.RowKit

theorem Sp.take_none {s : Sp} (h : idxOf s.st 0 = -1) : s.take = ((0, 6), s) := by unfold Sp.take; rw [h]; rfl
theorem Sp.take_some {s : Sp} {k : Nat} (h : idxOf s.st 0 = k) : s.take = ((s.start * 256 + k * s.size, 0), s.put k 1) := by
  unfold Sp.take
  rw [h, if_neg (by omega)]
  rfl

set_option maxHeartbeats 800000 in
theorem Take_at {w p q cap s} (h : SpanAt w p q cap s) :
    Calls Try.prog 76 #[.pointer (some ⟨p, 0, none⟩)] w fun e w' => e = .returned (.tuple #[.int .i64 s.take.1.1, .int .i64 s.take.1.2]) ∧ SpanAt w' p q cap s.take.2 ∧ Only [p, q] w w' := by
  have hl := h.good.len
  have C := sindex_any w (some ⟨q, 0, none⟩) s.st.length cap s.st 0 h.reads (by omega)
  have h4 := h.c4
  rcases idxOf_cases s.st 0 with ⟨hi, _⟩ | ⟨k, hi, hk, hv, _⟩
  · rw [Sp.take_none hi]
    rw [hi] at C
    have CH := Lib.hid C
    clear C hi
    go_enter Try.func76, Try.ntmps76
    go_wp2_with (first | (go_at_call 68; refine Still.use (made_at h) ?_) | (go_at_call 70; refine Still.use CH.out ?_))
    go_ret2
    exact ⟨rfl, h, Only.refl _ _⟩
  · rw [Sp.take_some hi]
    rw [hi] at C
    have CH := Lib.hid C
    have hpq := h.ltp
    have hqq := h.ltq
    have HM := Lib.hid (mark_at (h.alloc (.cells #[.int .i64 k] 3)) w.heap.size 1 k hk 1 (.inr rfl) ((Blk.new w 3 #[.int .i64 k]).cell_ 0 rfl) (by omega) (by omega))
    clear C hi hv
    go_enter Try.func76, Try.ntmps76
    go_wp2_with (first | (go_at_call 68; refine Still.use (made_at h) ?_) | (go_at_call 70; refine Still.use CH.out ?_) | (go_at_call 73; refine HM.out.mono ?_; rintro e w' ⟨rfl, h', ho⟩) | (go_at_call 93; refine Quiet.use (addr_at h' k (by omega) (by simp [Sp.put]; omega)) (fun n => ?_)))
    go_ret2
    exact ⟨rfl, h'.drewN _, (((Only.refl [p, q] w).alloc _).trans ho).drewN _⟩

theorem Sp.free_out {s : Sp} {a i j : Int} (h : s.obj a = (i, j)) (hj : j ≠ 0) : s.free a = (j, s) := by unfold Sp.free; rw [h, if_pos hj]
theorem Sp.free_twice {s : Sp} {a i : Int} (h : s.obj a = (i, 0)) (hv : s.st.getD i.toNat 0 = 0) : s.free a = (9, s) := by unfold Sp.free; rw [h, if_neg (by simp), if_pos hv]
theorem Sp.free_yes {s : Sp} {a i : Int} (h : s.obj a = (i, 0)) (hv : s.st.getD i.toNat 0 ≠ 0) : s.free a = (0, s.put i.toNat 0) := by unfold Sp.free; rw [h, if_neg (by simp), if_neg hv]

set_option maxHeartbeats 800000 in
theorem Put_at {w p q cap s} (h : SpanAt w p q cap s) (a : Int) (ha0 : -9223372036854775808 ≤ a) (ha1 : a ≤ 9223372036854775807) :
    Calls Try.prog 42 #[.pointer (some ⟨p, 0, none⟩), .int .i64 a] w fun e w' => e = .returned (.int .i64 (s.free a).1) ∧ SpanAt w' p q cap (s.free a).2 ∧ Only [p, q] w w' := by
  obtain ⟨r1, r2, r3⟩ := s.obj_range h.good a
  have C := object_at h a ha0 ha1
  obtain ⟨i, j, hij⟩ : ∃ i j, s.obj a = (i, j) := ⟨_, _, rfl⟩
  rw [hij] at r1 r2 r3 C
  dsimp only at r1 r2 r3 C
  have hl := h.good.len
  have h4 := h.c4
  have hpq := h.ltp
  have hqq := h.ltq
  rcases r3 with rfl | rfl
  · obtain ⟨k, rfl⟩ := Int.eq_ofNat_of_zero_le r1
    have hk := h.at_ k (by omega)
    by_cases hv : s.st.getD k 0 = 0
    · rw [Sp.free_twice hij (by rw [Int.toNat_natCast]; exact hv)]
      rw [hv] at hk
      have CH := Lib.hid C
      clear C hij hv
      go_enter Try.func42, Try.ntmps42
      go_wp2_with (first | (go_at_call 72; refine Quiet.use CH.out (fun n => ?_)))
      go_ret
      exact ⟨rfl, h.drewN _, (Only.refl _ _).drewN _⟩
    · rw [Sp.free_yes hij (by rw [Int.toNat_natCast]; exact hv), Int.toNat_natCast]
      have HM := Lib.hid (fun n => mark_at ((h.drewN n).alloc (.cells #[.int .i64 k] 3)) (w.drewN n).heap.size 1 k (by omega) 0 (.inl rfl) ((Blk.new (w.drewN n) 3 #[.int .i64 k]).cell_ 0 rfl) (by have : (w.drewN n).heap.size = w.heap.size := rfl; omega) (by have : (w.drewN n).heap.size = w.heap.size := rfl; omega))
      have d1 : (s.st.getD k 0 == 0) = false := beq_eq_false_iff_ne.2 hv
      have CH := Lib.hid C
      clear C hij hv
      generalize s.st.getD k 0 = x at hk d1
      go_enter Try.func42, Try.ntmps42
      go_wp2_with (first | (go_at_call 72; refine Quiet.use CH.out (fun n => ?_)) | (go_at_call 73; refine (HM.out _).mono ?_; rintro e w' ⟨rfl, h', ho⟩))
      go_ret
      exact ⟨rfl, h', (((Only.refl [p, q] w).drewN _).alloc _).trans ho⟩
  · rw [Sp.free_out hij (by simp)]
    have CH := Lib.hid C
    clear C hij
    go_enter Try.func42, Try.ntmps42
    go_wp2_with (first | (go_at_call 72; refine Quiet.use CH.out (fun n => ?_)))
    go_ret
    exact ⟨rfl, h.drewN _, (Only.refl _ _).drewN _⟩
end Go.Proofs.Ytlmjelcnldlagaa

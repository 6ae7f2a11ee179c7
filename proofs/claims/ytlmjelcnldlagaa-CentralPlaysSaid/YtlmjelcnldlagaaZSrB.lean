/- The reference's span: contracts of its methods that write or make memory. -/
import Derived.Test.YtlmjelcnldlagaaZSrA
set_option linter.unusedVariables false
set_option linter.unusedSimpArgs false
namespace Go.Proofs.Ytlmjelcnldlagaa
open Go.RowKit

theorem RefAt.stored {w p q cap s} (h : RefAt w p q cap s) {i : Nat} (hi : i < s.st.length) {b : Bool} :
    RefAt (w.setCell ⟨q, i, none⟩ (.bool b)) p q cap (s.put i (if b then 1 else 0)) := by
  obtain ⟨cs, hb, hc⟩ := h.row
  have hne := h.ne
  refine ⟨?_, ⟨cs.setIfInBounds i (.bool b), hb.set_ i _, ?_⟩, h.good.put hi (by cases b <;> simp)⟩
  · have := h.head.far (p := ⟨q, i, none⟩) hne (.bool b)
    simpa [Sp.put] using this
  · intro j hj
    have hj' : j < s.st.length := by simpa [Sp.put] using hj
    have hcj := hc j hj'
    by_cases e : i = j
    · subst e
      have hsz : i < cs.size := by rcases Nat.lt_or_ge i cs.size with h1 | h1; exact h1; rw [Array.getElem?_eq_none h1] at hcj; cases hcj
      cases b <;> simp [Sp.put, Array.getElem?_setIfInBounds, hsz, hj', List.getD_eq_getElem?_getD]
    · simp only [Sp.put, Array.getElem?_setIfInBounds, e, if_false, List.getD_eq_getElem?_getD, List.getElem?_set]
      simpa [List.getD_eq_getElem?_getD] using hcj

set_option maxHeartbeats 1000000 in
theorem rTake_at {w p q cap s} (h : RefAt w p q cap s) :
    Calls Try.prog 86 #[.pointer (some ⟨p, 0, none⟩)] w fun e w' => e = .returned (.tuple #[.int .i64 s.take.1.1, .int .i64 s.take.1.2]) ∧ RefAt w' p q cap s.take.2 ∧ Only [p, q] w w' := by
  have hl := h.good.len
  have h4 := h.c4
  have hg := Lib.hid h.good
  go_enter Try.func86, Try.ntmps86
  go_wp2_with (first | (go_at_call 82; refine Still.use (rmade_at h) ?_))
  go_loop [4] (fun t => ∃ k : Nat, k ≤ s.st.length ∧ t = .int .i64 k ∧ Hid (∀ j, j < k → s.st.getD j 0 ≠ 0)) (fun t => s.st.length - (intOf t).toNat)
  case atStart => exact ⟨0, Nat.zero_le _, rfl, fun j hj => absurd hj (by omega)⟩
  case round =>
    obtain ⟨k, hk, rfl, HN⟩ := hrel
    by_cases hlt : k < s.st.length
    · have hx := h.at_ k hlt
      rcases hg.out.bits k hlt with hv | hv
      · have HI := Lib.hid (Sp.take_some (idxOf_at hlt hv HN.out))
        have HS := Lib.hid (h.stored hlt (b := true))
        obtain ⟨cs, hb, _⟩ := h.row
        have hf := hb.frozen k
        rw [show (s.st.getD k 0 == 1) = false by rw [hv]; rfl] at hx
        clear hv
        go_wp2_with (first | (go_at_call 91; refine Quiet.use (rAt_at HS.out k (by omega) (by simp [Sp.put]; omega)) (fun n => ?_)))
        go_ret2
        exact ⟨by rw [HI.out]; rfl, by rw [HI.out]; exact HS.out.drewN _, ((Only.refl [p, q] w).setCell (p := ⟨q, k, none⟩) (.inl (by simp)) _).drewN _⟩
      · have HN' : Hid (∀ j, j < k + 1 → s.st.getD j 0 ≠ 0) := fun j hj => by
          rcases Nat.lt_or_ge j k with h1 | h1
          · exact HN.out j h1
          · rw [show j = k by omega, hv]; decide
        rw [show (s.st.getD k 0 == 1) = true by rw [hv]; rfl] at hx
        clear hv
        go_wp2
        go_round
        case rel => exact ⟨k + 1, by omega, by go_num, HN'⟩
        case measure => simp [intOf]; omega
    · have HI := Lib.hid (Sp.take_none (idxOf_none (l := s.st) (v := 0) (fun j hj => HN.out j (by omega))))
      go_wp2_with fail
      go_ret2
      exact ⟨by rw [HI.out]; rfl, by rw [HI.out]; exact h, Only.refl _ _⟩

set_option maxHeartbeats 1000000 in
theorem rPut_at {w p q cap s} (h : RefAt w p q cap s) (a : Int) :
    Calls Try.prog 88 #[.pointer (some ⟨p, 0, none⟩), .int .i64 a] w fun e w' => e = .returned (.int .i64 (s.free a).1) ∧ RefAt w' p q cap (s.free a).2 ∧ Only [p, q] w w' := by
  have hl := h.good.len
  have C := robject_at h a
  have h4 := h.c4
  obtain ⟨r1, r2, r3⟩ := s.obj_range h.good a
  rcases r3 with r3 | r3
  · obtain ⟨k, hk⟩ := Int.eq_ofNat_of_zero_le r1
    rw [hk] at r2
    have hij : s.obj a = ((k : Int), (0 : Int)) := Prod.ext hk r3
    rw [show s.robj a = k by unfold Sp.robj; rw [r3, if_pos rfl, hk]] at C
    have hx := h.at_ k (by omega)
    have CH := Lib.hid C
    have hkn : k < s.st.length := by omega
    rcases h.good.bits k hkn with hv | hv
    · rw [Sp.free_twice hij (by rw [Int.toNat_natCast]; exact hv)]
      rw [show (s.st.getD k 0 == 1) = false by rw [hv]; rfl] at hx
      clear C hk r3 r1 hij hv
      go_enter Try.func88, Try.ntmps88
      go_wp2_with (first | (go_at_call 82; refine Still.use (rmade_at h) ?_) | (go_at_call 97; refine Quiet.use CH.out (fun n => ?_)))
      go_ret
      exact ⟨rfl, h.drewN _, (Only.refl _ _).drewN _⟩
    · rw [Sp.free_yes hij (by rw [Int.toNat_natCast, hv]; decide), Int.toNat_natCast]
      rw [show (s.st.getD k 0 == 1) = true by rw [hv]; rfl] at hx
      have HS := Lib.hid (fun n => (h.drewN n).stored hkn (b := false))
      obtain ⟨cs, hb, _⟩ := h.row
      have hf := hb.frozen k
      clear C hk r3 r1 hij hv
      go_enter Try.func88, Try.ntmps88
      go_wp2_with (first | (go_at_call 82; refine Still.use (rmade_at h) ?_) | (go_at_call 97; refine Quiet.use CH.out (fun n => ?_)))
      go_ret
      first
        | exact ⟨rfl, HS.out _, ((Only.refl [p, q] w).drewN _).setCell (p := ⟨q, k, none⟩) (.inl (by simp)) _⟩
        | exact ⟨rfl, (h.stored hkn (b := false)).drewN _, ((Only.refl [p, q] w).setCell (p := ⟨q, k, none⟩) (.inl (by simp)) _).drewN _⟩
  · rw [show s.robj a = -1 by unfold Sp.robj; rw [r3]; rfl] at C
    have CH := Lib.hid C
    rw [show s.free a = (8, s) by unfold Sp.free; rw [r3]; rfl]
    clear C r3
    go_enter Try.func88, Try.ntmps88
    go_wp2_with (first | (go_at_call 82; refine Still.use (rmade_at h) ?_) | (go_at_call 97; refine Quiet.use CH.out (fun n => ?_)))
    go_ret
    exact ⟨rfl, h.drewN _, (Only.refl _ _).drewN _⟩
end Go.Proofs.Ytlmjelcnldlagaa

/- Make at a waste that is none; Slack. -/
import Derived.Test.YtgicapdiiknbiaaSzG
set_option linter.unusedVariables false
set_option linter.unusedSimpArgs false
namespace Go.Proofs.Ytgicapdiiknbiaa
open Go.RowKit

set_option maxHeartbeats 800000 in
theorem Make_bad (w : World) (waste : Int) (h : waste < 2 ∨ 16 < waste) : Grew Try.prog 22 #[.int .i64 waste] w (.tuple #[.slice none 0 0, .int .i64 1]) := by
  by_cases h1 : waste < 2
  · have d1 : decide (waste < 2) = true := decide_eq_true h1
    go_enter Try.func22, Try.ntmps22
    go_wp2
    go_ret2
    exact ⟨rfl, (Only.refl [] w).alloc _⟩
  · have d1 : decide (waste < 2) = false := decide_eq_false h1
    have d2 : decide (16 < waste) = true := decide_eq_true (by omega)
    go_enter Try.func22, Try.ntmps22
    go_wp2
    go_ret2
    exact ⟨rfl, (Only.refl [] w).alloc _⟩

set_option maxHeartbeats 1600000 in
theorem Slack_any (w : World) (A : Option Addr) (n c : Nat) (l : List Cl) (hr : ReadsC w A n l) (hn : n ≤ 9223372036854775807) (size : Int) (hs : I64 size) :
    Grew Try.prog 27 #[.slice A n c, .int .i64 size] w (.tuple #[.int .i64 (slackOf l size).1, .int .i64 (slackOf l size).2]) := by
  have C := Class_any w A n c l hr hn size 1
  have HR := Lib.hid hr
  have HL := Lib.hid hr.1
  clear hr
  by_cases ho : (clsOf l size 1).2 = 0
  · have hk : ∃ k : Nat, (clsOf l size 1).1 = k ∧ k < n ∧ isTable l ∧ size ≤ (cAt l k).s ∧ 1 ≤ size := by
      unfold clsOf at ho ⊢
      split at ho
      · simp at ho
      · rename_i h1
        split at ho
        · simp at ho
        · rename_i h2
          split at ho
          · rename_i h3
            rw [if_neg h1, if_neg h2, if_pos h3]
            simp only [Decidable.not_not] at h1 h2
            refine ⟨_, rfl, by rw [← HL.out]; exact h3, h1, ?_, h2.1⟩
            have h4 := List.findIdx_getElem (p := fitsC size 1) (xs := l) (w := h3)
            have e : cAt l (l.findIdx (fitsC size 1)) = l[l.findIdx (fitsC size 1)] := by simp [cAt, List.getD_eq_getElem?_getD, List.getElem?_eq_getElem h3]
            rw [e]
            unfold fitsC at h4 ⊢
            simp only [Bool.and_eq_true, decide_eq_true_eq] at h4
            exact h4.1
          · simp at ho
    obtain ⟨k, hk1, hk2, hk3, hk4, hk5⟩ := hk
    have hb := hk3.at_ k (by rw [HL.out]; exact hk2)
    have HE : Hid (slackOf l size = ((cAt l k).s - size, 0)) := by show _ = _; unfold slackOf; rw [if_pos ho, hk1]; rfl
    rw [hk1, ho] at C
    have CH := Lib.hid C
    obtain ⟨x, hx⟩ : ∃ x, x = cAt l k := ⟨_, rfl⟩
    rw [← hx] at hb hk4 HE
    have HX := Lib.hid hx
    clear C hk3 ho hk1 hx
    obtain ⟨xs, xp, xb⟩ := x
    dsimp only at hb hk4 HE
    obtain ⟨hb1, hb2⟩ := hb
    go_enter Try.func27, Try.ntmps27
    go_wp2_with (first | (go_at_call 25; refine Grew.use CH.out (fun w1 ho1 => ?_); obtain ⟨ad, rfl, c1, c2, c3⟩ := (HR.out.still ho1).at_ hk2; rw [← HX.out] at c1 c2 c3; dsimp only at c1 c2 c3))
    go_ret2
    exact ⟨by rw [HE.out]; rfl, ho1⟩
  · have HE : Hid (slackOf l size = (0, (clsOf l size 1).2)) := by show _ = _; unfold slackOf; rw [if_neg ho]
    have d1 : ((clsOf l size 1).2 == 0) = false := beq_eq_false_iff_ne.2 ho
    have CH := Lib.hid C
    clear C ho
    generalize clsOf l size 1 = r at *
    go_enter Try.func27, Try.ntmps27
    go_wp2_with (first | (go_at_call 25; refine Grew.use CH.out (fun w1 ho1 => ?_)))
    go_ret2
    exact ⟨by rw [HE.out]; rfl, ho1⟩
end Go.Proofs.Ytgicapdiiknbiaa

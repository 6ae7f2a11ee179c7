/- Contracts of the reference's Class and Slack. -/
import Derived.Test.YtgicapdiiknbiaaSzH
set_option linter.unusedVariables false
set_option linter.unusedSimpArgs false
namespace Go.Proofs.Ytgicapdiiknbiaa
open Go.RowKit

set_option maxHeartbeats 1600000 in
theorem rClass_any (w : World) (A : Option Addr) (n c : Nat) (l : List Cl) (hr : ReadsC w A n l) (hn : n ≤ 9223372036854775807) (size align : Int) :
    Grew Try.prog 26 #[.slice A n c, .int .i64 size, .int .i64 align] w (.tuple #[.int .i64 (clsOf l size align).1, .int .i64 (clsOf l size align).2]) := by
  have HR := Lib.hid hr
  have HL := Lib.hid hr.1
  have CV := Lib.hid (rValid_any w A n c l hr hn)
  clear hr
  by_cases ht : isTable l
  · have HT := Lib.hid ht
    rw [decide_eq_true ht] at CV
    clear ht
    by_cases h1 : 1 ≤ size ∧ isPow align
    · have HP := Lib.hid h1.2
      have ha : 1 ≤ align ∧ align ≤ 256 := by have := h1.2; unfold isPow at this; omega
      obtain ⟨ha1, ha2⟩ := ha
      have d1 : decide (size < 1) = false := decide_eq_false (by omega)
      have hs0 : (align == 0) = false := beq_eq_false_iff_ne.2 (by omega)
      have CP := Lib.hid (fun W => (by have := rPower_any W align; rwa [decide_eq_true HP.out] at this : Still Try.prog 40 #[.int .i64 align, .int .i64 256] W (.bool true)))
      have HC : Hid (clsOf l size align = if l.findIdx (fitsC size align) < l.length then (((l.findIdx (fitsC size align) : Nat) : Int), (0 : Int)) else (0, 4)) := by show _ = _; unfold clsOf; rw [if_neg (by simpa using HT.out), if_neg (by simp only [Decidable.not_not]; exact h1)]
      clear h1
      go_enter Try.func26, Try.ntmps26
      go_wp2_with (first | (go_at_call 19; refine Grew.use CV.out (fun w1 ho1 => ?_)) | (go_at_call 40; refine Still.use (CP.out _) ?_))
      go_loopw [8] (fun t wr => ∃ k : Nat, k ≤ n ∧ t = .int .i64 k ∧ Only [] w wr ∧ Hid (k ≤ l.findIdx (fitsC size align))) (fun t _ => n - (intOf t).toNat)
      case atStart => exact ⟨0, Nat.zero_le _, rfl, ho1, Nat.zero_le _⟩
      case round =>
        obtain ⟨k, hk, rfl, ho, HK⟩ := hrel
        by_cases hlt : k < n
        · obtain ⟨ad, rfl, c1, c2, c3⟩ := (HR.out.still ho).at_ hlt
          obtain ⟨s1, s2⟩ := HT.out.at_ k (by rw [HL.out]; exact hlt)
          have HH := Lib.hid (findIdx_here (p := fitsC size align) (by rw [HL.out]; exact hlt) HK.out)
          have HN := Lib.hid (findIdx_next (p := fitsC size align) (by rw [HL.out]; exact hlt) HK.out)
          have HF : Hid (fitsC size align (cAt l k) = (decide (size ≤ (cAt l k).s) && decide ((cAt l k).s % align = 0))) := rfl
          generalize cAt l k = x at *
          obtain ⟨xs, xp, xb⟩ := x
          dsimp only at *
          by_cases e1 : size ≤ xs
          · have d2 : decide (size ≤ xs) = true := decide_eq_true e1
            by_cases e2 : xs % align = 0
            · have d3 : (xs % align == 0) = true := beq_iff_eq.2 e2
              have HE := Lib.hid (HH.out (by rw [HF.out]; simp [e1, e2]))
              clear HH HN HF e1 e2
              go_wp2_with fail
              go_ret2
              refine ⟨?_, ho⟩
              rw [HC.out, HE.out, HL.out, if_pos hlt]
              rfl
            · have d3 : (xs % align == 0) = false := beq_eq_false_iff_ne.2 e2
              have HE := Lib.hid (HN.out (by rw [HF.out]; simp [e2]))
              clear HH HN HF e1 e2
              go_wp2_with fail
              go_roundw
              case rel => exact ⟨k + 1, by omega, by go_num, ho, HE⟩
              case measure => simp [intOf]; omega
          · have d2 : decide (size ≤ xs) = false := decide_eq_false e1
            have HE := Lib.hid (HN.out (by rw [HF.out]; simp [e1]))
            clear HH HN HF e1
            go_wp2_with fail
            go_roundw
            case rel => exact ⟨k + 1, by omega, by go_num, ho, HE⟩
            case measure => simp [intOf]; omega
        · have e : k = n := by omega
          have HE := Lib.hid (findIdx_end (p := fitsC size align) (by rw [HL.out]; exact e) HK.out)
          go_wp2_with fail
          go_ret2
          refine ⟨?_, ho⟩
          rw [HC.out, if_neg HE.out]
          rfl
    · have HE : Hid (clsOf l size align = (0, 1)) := by show _ = _; unfold clsOf; rw [if_neg (by simpa using HT.out), if_pos h1]
      by_cases h2 : size < 1
      · have d1 : decide (size < 1) = true := decide_eq_true h2
        clear h1 h2
        go_enter Try.func26, Try.ntmps26
        go_wp2_with (first | (go_at_call 19; refine Grew.use CV.out (fun w1 ho1 => ?_)))
        go_ret2
        exact ⟨by rw [HE.out]; rfl, ho1⟩
      · have d1 : decide (size < 1) = false := decide_eq_false h2
        have hp : ¬ isPow align := fun h => h1 ⟨by omega, h⟩
        have CP := Lib.hid (fun W => (by have := rPower_any W align; rwa [decide_eq_false hp] at this : Still Try.prog 40 #[.int .i64 align, .int .i64 256] W (.bool false)))
        clear h1 h2 hp
        go_enter Try.func26, Try.ntmps26
        go_wp2_with (first | (go_at_call 19; refine Grew.use CV.out (fun w1 ho1 => ?_)) | (go_at_call 40; refine Still.use (CP.out _) ?_))
        go_ret2
        exact ⟨by rw [HE.out]; rfl, ho1⟩
  · have HE : Hid (clsOf l size align = (0, 2)) := by show _ = _; unfold clsOf; rw [if_pos ht]
    rw [decide_eq_false ht] at CV
    clear ht
    go_enter Try.func26, Try.ntmps26
    go_wp2_with (first | (go_at_call 19; refine Grew.use CV.out (fun w1 ho1 => ?_)))
    go_ret2
    exact ⟨by rw [HE.out]; rfl, ho1⟩
set_option maxHeartbeats 1600000 in
theorem rSlack_any (w : World) (A : Option Addr) (n c : Nat) (l : List Cl) (hr : ReadsC w A n l) (hn : n ≤ 9223372036854775807) (size : Int) (hs : I64 size) :
    Grew Try.prog 28 #[.slice A n c, .int .i64 size] w (.tuple #[.int .i64 (slackOf l size).1, .int .i64 (slackOf l size).2]) := by
  have C := rClass_any w A n c l hr hn size 1
  have HR := Lib.hid hr
  have HL := Lib.hid hr.1
  clear hr
  by_cases ho : (clsOf l size 1).2 = 0
  · have hk : ∃ k : Nat, (clsOf l size 1).1 = k ∧ k < n ∧ isTable l ∧ size ≤ (cAt l k).s ∧ 1 ≤ size := by
      unfold clsOf at ho ⊢
      split at ho
      · simp at ho
      · rename_i h1
        split at ho
        · simp at ho
        · rename_i h2
          split at ho
          · rename_i h3
            rw [if_neg h1, if_neg h2, if_pos h3]
            simp only [Decidable.not_not] at h1 h2
            refine ⟨_, rfl, by rw [← HL.out]; exact h3, h1, ?_, h2.1⟩
            have h4 := List.findIdx_getElem (p := fitsC size 1) (xs := l) (w := h3)
            have e : cAt l (l.findIdx (fitsC size 1)) = l[l.findIdx (fitsC size 1)] := by simp [cAt, List.getD_eq_getElem?_getD, List.getElem?_eq_getElem h3]
            rw [e]
            unfold fitsC at h4 ⊢
            simp only [Bool.and_eq_true, decide_eq_true_eq] at h4
            exact h4.1
          · simp at ho
    obtain ⟨k, hk1, hk2, hk3, hk4, hk5⟩ := hk
    have hb := hk3.at_ k (by rw [HL.out]; exact hk2)
    have HE : Hid (slackOf l size = ((cAt l k).s - size, 0)) := by show _ = _; unfold slackOf; rw [if_pos ho, hk1]; rfl
    rw [hk1, ho] at C
    have CH := Lib.hid C
    obtain ⟨x, hx⟩ : ∃ x, x = cAt l k := ⟨_, rfl⟩
    rw [← hx] at hb hk4 HE
    have HX := Lib.hid hx
    clear C hk3 ho hk1 hx
    obtain ⟨xs, xp, xb⟩ := x
    dsimp only at hb hk4 HE
    obtain ⟨hb1, hb2⟩ := hb
    go_enter Try.func28, Try.ntmps28
    go_wp2_with (first | (go_at_call 26; refine Grew.use CH.out (fun w1 ho1 => ?_); obtain ⟨ad, rfl, c1, c2, c3⟩ := (HR.out.still ho1).at_ hk2; rw [← HX.out] at c1 c2 c3; dsimp only at c1 c2 c3))
    go_ret2
    exact ⟨by rw [HE.out]; rfl, ho1⟩
  · have HE : Hid (slackOf l size = (0, (clsOf l size 1).2)) := by show _ = _; unfold slackOf; rw [if_neg ho]
    have d1 : ((clsOf l size 1).2 == 0) = false := beq_eq_false_iff_ne.2 ho
    have CH := Lib.hid C
    clear C ho
    generalize clsOf l size 1 = r at *
    go_enter Try.func28, Try.ntmps28
    go_wp2_with (first | (go_at_call 26; refine Grew.use CH.out (fun w1 ho1 => ?_)))
    go_ret2
    exact ⟨by rw [HE.out]; rfl, ho1⟩
end Go.Proofs.Ytgicapdiiknbiaa

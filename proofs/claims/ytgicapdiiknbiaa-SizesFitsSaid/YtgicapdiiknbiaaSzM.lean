/- The walk of SizesFits. -/
import Derived.Test.YtgicapdiiknbiaaSzL
set_option linter.unusedVariables false
set_option linter.unusedSimpArgs false
namespace Go.Proofs.Ytgicapdiiknbiaa
open Go.RowKit

set_option maxRecDepth 100000 in
set_option maxHeartbeats 4000000 in
theorem SizesFits_walk (w : World) (A : Option Addr) (n c : Nat) (l : List Cl) (hr : ReadsC w A n l) (hn : n ≤ 9223372036854775807) (size : Int) (hs : I64 size) (align : Int) (_ : I64 align) :
    Grew Try.prog 5 #[.slice A n c, .int .i64 size, .int .i64 align] w (.bool true) := by
  have HR := Lib.hid hr
  have HL := Lib.hid hr.1
  clear hr
  by_cases hg : 200 < n
  · have d0 : decide (200 < (n : Int)) = true := decide_eq_true (by omega)
    go_enter Try.func5, Try.ntmps5
    go_wp2_with (first | (go_at_call 14; refine Grew.use (alive_any _) (fun w1 ho1 => ?_)))
    go_ret
    exact ⟨rfl, ho1⟩
  · have d0 : decide (200 < (n : Int)) = false := decide_eq_false (by omega)
    have H1 := Lib.hid (Class_any w A n c l HR.out hn size align)
    by_cases ho : (clsOf l size align).2 = 0
    · obtain ⟨ht, hs1, ha, k, hk, hk1, hk2, hk3⟩ := clsOf_ok ho
      rw [hk] at H1
      have HK := Lib.hid hk3
      have HT := Lib.hid ht
      rw [HL.out] at hk1
      have hb := ht.at_ k (by rw [HL.out]; exact hk1)
      have ha1 : 1 ≤ align ∧ align ≤ 256 := by unfold isPow at ha; omega
      have hs0 : (align == 0) = false := beq_eq_false_iff_ne.2 (by omega)
      have d1 : decide ((k : Int) < 0) = false := decide_eq_false (by omega)
      have d2 : decide ((n : Int) ≤ k) = false := decide_eq_false (by omega)
      have d2' : decide (n ≤ k) = false := decide_eq_false (by omega)
      have d3 : decide (align < 1) = false := decide_eq_false (by omega)
      unfold fitsC at hk2
      simp only [Bool.and_eq_true, decide_eq_true_eq] at hk2
      obtain ⟨x, hx⟩ : ∃ x, x = cAt l k := ⟨_, rfl⟩
      rw [← hx] at hk2 hb
      have HX := Lib.hid hx
      obtain ⟨xs, xp, xb⟩ := x
      dsimp only at hk2 hb
      have d4 : decide (xs < size) = false := decide_eq_false (by omega)
      have d5 : (xs % align == 0) = true := beq_iff_eq.2 hk2.2
      clear hk hk2 hk3 ht ha ho hx
      go_enter Try.func5, Try.ntmps5
      go_wp2_with (first
        | (go_at_call 25; with_reducible refine Grew.use H1.out (fun w1 ho1 => ?_); obtain ⟨ad, rfl, c1, c2, c3⟩ := (HR.out.still ho1).at_ hk1; rw [← HX.out] at c1; dsimp only at c1; clear c2 c3))
      go_loopw [9] (fun t wr => ∃ j : Nat, j ≤ k ∧ t = .int .i64 j ∧ Only [] w wr) (fun t _ => k - (intOf t).toNat)
      case atStart => exact ⟨0, Nat.zero_le _, rfl, ho1⟩
      case round =>
        obtain ⟨j, hj, rfl, ho⟩ := hrel
        by_cases hlt : j < k
        · have e1 : decide ((j : Int) < k) = true := decide_eq_true (by omega)
          obtain ⟨ad', e, c1, c2, c3⟩ := (HR.out.still ho).at_ (show j < n by omega)
          injection e with e
          subst e
          have hF := HK.out j hlt
          have hb' := HT.out.at_ j (by rw [HL.out]; omega)
          unfold fitsC at hF
          obtain ⟨y, hy⟩ : ∃ y, y = cAt l j := ⟨_, rfl⟩
          rw [← hy] at hF c1 hb'
          obtain ⟨ys, yp, yb⟩ := y
          dsimp only at hF c1 hb'
          clear c2 c3 hy
          by_cases g1 : size ≤ ys
          · have g2 : decide (size ≤ ys) = true := decide_eq_true g1
            have g3 : (ys % align == 0) = false := by rw [g2] at hF; simpa using hF
            clear hF g1
            go_wp2_with fail
            go_roundw
            case rel => exact ⟨j + 1, by omega, by go_num, ho⟩
            case measure => simp [intOf]; omega
          · have g2 : decide (size ≤ ys) = false := decide_eq_false g1
            clear hF g1
            go_wp2_with fail
            go_roundw
            case rel => exact ⟨j + 1, by omega, by go_num, ho⟩
            case measure => simp [intOf]; omega
        · have e1 : decide ((j : Int) < k) = false := decide_eq_false (by omega)
          go_wp2_with (first | (go_at_call 14; with_reducible refine Grew.use (alive_any _) (fun w5 ho5 => ?_)))
          go_ret
          exact ⟨rfl, ho.trans ho5⟩
    · have d1 : ((clsOf l size align).2 == 0) = false := beq_eq_false_iff_ne.2 ho
      have d2 : ((clsOf l size align).2 != 0) = true := bne_iff_ne.2 ho
      clear ho
      generalize clsOf l size align = r at *
      obtain ⟨r1, r2⟩ := r
      dsimp only at H1 d1 d2
      go_enter Try.func5, Try.ntmps5
      go_wp2_with (first | (go_at_call 25; with_reducible refine Grew.use H1.out (fun w1 ho1 => ?_)) | (go_at_call 14; with_reducible refine Grew.use (alive_any _) (fun w5 ho5 => ?_)))
      go_ret
      exact ⟨rfl, ho1.trans ho5⟩
end Go.Proofs.Ytgicapdiiknbiaa

/- The reference's step and class. -/
import Derived.Test.YtgicapdiiknbiaaSzG
set_option linter.unusedVariables false
set_option linter.unusedSimpArgs false
namespace Go.Proofs.Ytgicapdiiknbiaa
open Go.RowKit

set_option maxHeartbeats 1600000 in
theorem rstep_any (w : World) (s waste : Int) (h1 : 8 ≤ s) (h2 : s ≤ 512) (h3 : 2 ≤ waste) (h4 : waste ≤ 16) : Still Try.prog 36 #[.int .i64 s, .int .i64 waste] w (.int .i64 (if 8 < pw (s / waste) then pw (s / waste) else 8)) := by
  have hs0 : (waste == 0) = false := beq_eq_false_iff_ne.2 (by omega)
  have q0 : 0 ≤ s / waste := Int.ediv_nonneg (by omega) (by omega)
  have q1 : s / waste ≤ 256 := by
    have := Int.ediv_mul_le s (show waste ≠ 0 by omega)
    have h5 : s / waste * 2 ≤ s / waste * waste := Int.mul_le_mul_of_nonneg_left h3 q0
    omega
  have HQ : Hid (∃ q, q = s / waste) := ⟨_, rfl⟩
  go_enter Try.func36, Try.ntmps36
  go_wp2_with fail
  go_loop [5] (fun t => ∃ d : Int, (d = 8 ∨ d = 16 ∨ d = 32 ∨ d = 64 ∨ d = 128 ∨ d = 256) ∧ t = .int .i64 d ∧ (d = 8 ∨ d ≤ s / waste)) (fun t => 1000 - (intOf t).toNat)
  case atStart => exact ⟨8, .inl rfl, rfl, .inl rfl⟩
  case round =>
    obtain ⟨d, hd, rfl, hq⟩ := hrel
    have hb : 8 ≤ d ∧ d ≤ 256 := by omega
    by_cases hlt : 2 * d ≤ s / waste
    · have d1 : decide (2 * d ≤ s / waste) = true := decide_eq_true hlt
      go_wp2_with fail
      go_round
      case rel => exact ⟨2 * d, by omega, by go_num, .inr hlt⟩
      case measure => simp [intOf]; omega
    · have d1 : decide (2 * d ≤ s / waste) = false := decide_eq_false hlt
      have he : (if 8 < pw (s / waste) then pw (s / waste) else 8) = d := by
        generalize s / waste = q at *
        unfold pw
        clear HQ
        omega
      go_wp2_with fail
      go_ret
      exact ⟨rfl, rfl⟩

/-- The pages that class has found when it has looked at all that are more than p. -/
def pgDown (s waste : Int) (p : Nat) : Int := if p = 0 ∧ pgOk s waste 1 = true then 1 else if p ≤ 1 ∧ pgOk s waste 2 = true then 2 else if p ≤ 2 ∧ pgOk s waste 3 = true then 3 else 4
theorem pgDown_zero (s waste : Int) : pgDown s waste 0 = pgs s waste := by unfold pgDown pgs; simp
theorem pgDown_yes {s waste : Int} {p : Nat} (hp : p < 4) (h : pgOk s waste ((p : Int) + 1) = true) : pgDown s waste p = (p : Int) + 1 := by
  unfold pgDown
  rcases (by omega : p = 0 ∨ p = 1 ∨ p = 2 ∨ p = 3) with rfl | rfl | rfl | rfl
  · have h : pgOk s waste 1 = true := h; simp [h]
  · have h : pgOk s waste 2 = true := h; simp [h]
  · have h : pgOk s waste 3 = true := h; simp [h]
  · simp
theorem pgDown_no {s waste : Int} {p : Nat} (hp : p < 4) (h : pgOk s waste ((p : Int) + 1) = false) : pgDown s waste p = pgDown s waste (p + 1) := by
  unfold pgDown
  rcases (by omega : p = 0 ∨ p = 1 ∨ p = 2 ∨ p = 3) with rfl | rfl | rfl | rfl
  · have h : pgOk s waste 1 = false := h; simp [h]
  · have h : pgOk s waste 2 = false := h; simp [h]
  · have h : pgOk s waste 3 = false := h; simp [h]
  · simp

set_option maxRecDepth 100000 in
set_option maxHeartbeats 4000000 in
theorem rclass_any (w : World) (s waste : Int) (h1 : 8 ≤ s) (h2 : s ≤ 512) (h3 : 2 ≤ waste) (h4 : waste ≤ 16) : Grew Try.prog 35 #[.int .i64 s, .int .i64 waste] w (classOf waste s).val := by
  have hs0 : (s == 0) = false := beq_eq_false_iff_ne.2 (by omega)
  have q0 : 0 ≤ 512 / s := Int.ediv_nonneg (by omega) (by omega)
  have q1 : 512 / s ≤ 512 := Int.ediv_le_self _ (by omega)
  have HC : Hid ((classOf waste s).val = .agg #[.int .i64 s, .int .i64 (pgs s waste), .int .i64 (bat (512 / s))]) := rfl
  have b4 := Blk.new w 24 #[.int .i64 0, .int .i64 0, .int .i64 0]
  have ho4 := (Only.refl [] w).alloc (.cells #[.int .i64 0, .int .i64 0, .int .i64 0] 24)
  go_enter Try.func35, Try.ntmps35
  go_wp2_with fail
  · have hX : bat (512 / s) = 2 := by unfold bat; omega
    rw [hX] at HC
    have b4' := b4.alloc (.cells #[.int .i64 s, .int .i64 4, .int .i64 2] 24)
    have b5 := Blk.new (w.alloc (.cells #[.int .i64 0, .int .i64 0, .int .i64 0] 24)) 24 #[.int .i64 s, .int .i64 4, .int .i64 2]
    have ho5 := ho4.alloc (.cells #[.int .i64 s, .int .i64 4, .int .i64 2] 24)
    rw [World.size_alloc] at b5
    clear b4 ho4 hX
    generalize ((w.alloc (.cells #[.int .i64 0, .int .i64 0, .int .i64 0] 24)).alloc (.cells #[.int .i64 s, .int .i64 4, .int .i64 2] 24)) = w2 at *
    go_loopw [6] (fun t wr => ∃ p : Nat, p ≤ 4 ∧ t = .int .i64 p ∧ Only [] w wr ∧ Blk wr w.heap.size 24 #[.int .i64 0, .int .i64 0, .int .i64 0] ∧ Blk wr (w.heap.size + 1) 24 #[.int .i64 s, .int .i64 (pgDown s waste p), .int .i64 2]) (fun t _ => (intOf t).toNat)
    case atStart => exact ⟨4, Nat.le_refl _, rfl, ho5, b4', b5⟩
    case round =>
      obtain ⟨p, hp, rfl, ho, c4, c5⟩ := hrel
      by_cases hlt : 1 ≤ p
      · obtain ⟨k, rfl⟩ : ∃ k, p = k + 1 := ⟨p - 1, by omega⟩
        have m0 : 0 ≤ ((k : Int) + 1) * 256 % s := Int.emod_nonneg _ (by omega)
        have m1 : ((k : Int) + 1) * 256 % s < s := Int.emod_lt_of_pos _ (by omega)
        have m2 : 0 ≤ waste * (((k : Int) + 1) * 256 % s) := Int.mul_nonneg (by omega) m0
        have m3 : waste * (((k : Int) + 1) * 256 % s) ≤ 16 * s := Int.mul_le_mul h4 (by omega) m0 (by omega)
        have HB : Hid (pgOk s waste ((k : Int) + 1) = (decide (s ≤ ((k : Int) + 1) * 256) && decide (((k : Int) + 1) * 256 % s * waste ≤ ((k : Int) + 1) * 256))) := rfl
        have HY := Lib.hid (pgDown_yes (s := s) (waste := waste) (p := k) (by omega))
        have HN := Lib.hid (pgDown_no (s := s) (waste := waste) (p := k) (by omega))
        have hr : (((k + 1 : Nat)) : Int) = (k : Int) + 1 := by omega
        by_cases e1 : s ≤ ((k : Int) + 1) * 256
        · have d1 : decide (s ≤ ((k : Int) + 1) * 256) = true := decide_eq_true e1
          by_cases e2 : waste * (((k : Int) + 1) * 256 % s) ≤ ((k : Int) + 1) * 256
          · have d2 : decide (waste * (((k : Int) + 1) * 256 % s) ≤ ((k : Int) + 1) * 256) = true := decide_eq_true e2
            have HE := Lib.hid (HY.out (by rw [HB.out, d1, Int.mul_comm, d2]; rfl))
            have c5' := c5.set_ 1 (.int .i64 ((k : Int) + 1))
            have c4' := c4.far (p := ⟨w.heap.size + 1, 1, none⟩) (by simp) (.int .i64 ((k : Int) + 1))
            have z1 := c5.cell_ 1 rfl
            have f1 := c5.frozen 1
            clear HB HY HN e1 e2
            go_wp2_with fail
            go_roundw
            case rel => exact ⟨k, by omega, by go_num, ho.setCell (.inr (by simp)) _, c4', by rw [HE.out]; exact c5'⟩
            case measure => simp [intOf]
          · have d2 : decide (waste * (((k : Int) + 1) * 256 % s) ≤ ((k : Int) + 1) * 256) = false := decide_eq_false e2
            have HE := Lib.hid (HN.out (by rw [HB.out, d1, Int.mul_comm, d2]; rfl))
            clear HB HY HN e1 e2
            go_wp2_with fail
            go_roundw
            case rel => exact ⟨k, by omega, by go_num, ho, c4, by rw [HE.out]; exact c5⟩
            case measure => simp [intOf]
        · have d1 : decide (s ≤ ((k : Int) + 1) * 256) = false := decide_eq_false e1
          have HE := Lib.hid (HN.out (by rw [HB.out, d1]; rfl))
          clear HB HY HN e1
          go_wp2_with fail
          go_roundw
          case rel => exact ⟨k, by omega, by go_num, ho, c4, by rw [HE.out]; exact c5⟩
          case measure => simp [intOf]
      · have e : p = 0 := by omega
        subst e
        rw [pgDown_zero] at c5
        have z0 := c5.cell_ 0 rfl
        have z1 := c5.cell_ 1 rfl
        have z2 := c5.cell_ 2 rfl
        have y0 := c4.cell_ 0 rfl
        have y1 := c4.cell_ 1 rfl
        have y2 := c4.cell_ 2 rfl
        have f0 := c4.frozen 0
        have f1 := c4.frozen 1
        have f2 := c4.frozen 2
        go_wp2_with fail
        have g := ((c4.set_ 0 (.int .i64 s)).set_ 1 (.int .i64 (pgs s waste))).set_ 2 (.int .i64 2)
        have q0 := g.cell_ 0 (v := .int .i64 s) rfl
        have q1 := g.cell_ 1 (v := .int .i64 (pgs s waste)) rfl
        have q2 := g.cell_ 2 (v := .int .i64 2) rfl
        refine bodyPost_ret (v := .agg #[.int .i64 s, .int .i64 (pgs s waste), .int .i64 2]) (by simp [results, Try.results35, go_sem, q0, q1, q2]) rfl ⟨?_, ((ho.setCell (.inr (Nat.le_refl _)) _).setCell (.inr (Nat.le_refl _)) _).setCell (.inr (Nat.le_refl _)) _⟩
        rw [HC.out]
  · have hX : bat (512 / s) = 32 := by unfold bat; omega
    rw [hX] at HC
    have b4' := b4.alloc (.cells #[.int .i64 s, .int .i64 4, .int .i64 32] 24)
    have b5 := Blk.new (w.alloc (.cells #[.int .i64 0, .int .i64 0, .int .i64 0] 24)) 24 #[.int .i64 s, .int .i64 4, .int .i64 32]
    have ho5 := ho4.alloc (.cells #[.int .i64 s, .int .i64 4, .int .i64 32] 24)
    rw [World.size_alloc] at b5
    clear b4 ho4 hX
    generalize ((w.alloc (.cells #[.int .i64 0, .int .i64 0, .int .i64 0] 24)).alloc (.cells #[.int .i64 s, .int .i64 4, .int .i64 32] 24)) = w2 at *
    go_loopw [6] (fun t wr => ∃ p : Nat, p ≤ 4 ∧ t = .int .i64 p ∧ Only [] w wr ∧ Blk wr w.heap.size 24 #[.int .i64 0, .int .i64 0, .int .i64 0] ∧ Blk wr (w.heap.size + 1) 24 #[.int .i64 s, .int .i64 (pgDown s waste p), .int .i64 32]) (fun t _ => (intOf t).toNat)
    case atStart => exact ⟨4, Nat.le_refl _, rfl, ho5, b4', b5⟩
    case round =>
      obtain ⟨p, hp, rfl, ho, c4, c5⟩ := hrel
      by_cases hlt : 1 ≤ p
      · obtain ⟨k, rfl⟩ : ∃ k, p = k + 1 := ⟨p - 1, by omega⟩
        have m0 : 0 ≤ ((k : Int) + 1) * 256 % s := Int.emod_nonneg _ (by omega)
        have m1 : ((k : Int) + 1) * 256 % s < s := Int.emod_lt_of_pos _ (by omega)
        have m2 : 0 ≤ waste * (((k : Int) + 1) * 256 % s) := Int.mul_nonneg (by omega) m0
        have m3 : waste * (((k : Int) + 1) * 256 % s) ≤ 16 * s := Int.mul_le_mul h4 (by omega) m0 (by omega)
        have HB : Hid (pgOk s waste ((k : Int) + 1) = (decide (s ≤ ((k : Int) + 1) * 256) && decide (((k : Int) + 1) * 256 % s * waste ≤ ((k : Int) + 1) * 256))) := rfl
        have HY := Lib.hid (pgDown_yes (s := s) (waste := waste) (p := k) (by omega))
        have HN := Lib.hid (pgDown_no (s := s) (waste := waste) (p := k) (by omega))
        have hr : (((k + 1 : Nat)) : Int) = (k : Int) + 1 := by omega
        by_cases e1 : s ≤ ((k : Int) + 1) * 256
        · have d1 : decide (s ≤ ((k : Int) + 1) * 256) = true := decide_eq_true e1
          by_cases e2 : waste * (((k : Int) + 1) * 256 % s) ≤ ((k : Int) + 1) * 256
          · have d2 : decide (waste * (((k : Int) + 1) * 256 % s) ≤ ((k : Int) + 1) * 256) = true := decide_eq_true e2
            have HE := Lib.hid (HY.out (by rw [HB.out, d1, Int.mul_comm, d2]; rfl))
            have c5' := c5.set_ 1 (.int .i64 ((k : Int) + 1))
            have c4' := c4.far (p := ⟨w.heap.size + 1, 1, none⟩) (by simp) (.int .i64 ((k : Int) + 1))
            have z1 := c5.cell_ 1 rfl
            have f1 := c5.frozen 1
            clear HB HY HN e1 e2
            go_wp2_with fail
            go_roundw
            case rel => exact ⟨k, by omega, by go_num, ho.setCell (.inr (by simp)) _, c4', by rw [HE.out]; exact c5'⟩
            case measure => simp [intOf]
          · have d2 : decide (waste * (((k : Int) + 1) * 256 % s) ≤ ((k : Int) + 1) * 256) = false := decide_eq_false e2
            have HE := Lib.hid (HN.out (by rw [HB.out, d1, Int.mul_comm, d2]; rfl))
            clear HB HY HN e1 e2
            go_wp2_with fail
            go_roundw
            case rel => exact ⟨k, by omega, by go_num, ho, c4, by rw [HE.out]; exact c5⟩
            case measure => simp [intOf]
        · have d1 : decide (s ≤ ((k : Int) + 1) * 256) = false := decide_eq_false e1
          have HE := Lib.hid (HN.out (by rw [HB.out, d1]; rfl))
          clear HB HY HN e1
          go_wp2_with fail
          go_roundw
          case rel => exact ⟨k, by omega, by go_num, ho, c4, by rw [HE.out]; exact c5⟩
          case measure => simp [intOf]
      · have e : p = 0 := by omega
        subst e
        rw [pgDown_zero] at c5
        have z0 := c5.cell_ 0 rfl
        have z1 := c5.cell_ 1 rfl
        have z2 := c5.cell_ 2 rfl
        have y0 := c4.cell_ 0 rfl
        have y1 := c4.cell_ 1 rfl
        have y2 := c4.cell_ 2 rfl
        have f0 := c4.frozen 0
        have f1 := c4.frozen 1
        have f2 := c4.frozen 2
        go_wp2_with fail
        have g := ((c4.set_ 0 (.int .i64 s)).set_ 1 (.int .i64 (pgs s waste))).set_ 2 (.int .i64 32)
        have q0 := g.cell_ 0 (v := .int .i64 s) rfl
        have q1 := g.cell_ 1 (v := .int .i64 (pgs s waste)) rfl
        have q2 := g.cell_ 2 (v := .int .i64 32) rfl
        refine bodyPost_ret (v := .agg #[.int .i64 s, .int .i64 (pgs s waste), .int .i64 32]) (by simp [results, Try.results35, go_sem, q0, q1, q2]) rfl ⟨?_, ((ho.setCell (.inr (Nat.le_refl _)) _).setCell (.inr (Nat.le_refl _)) _).setCell (.inr (Nat.le_refl _)) _⟩
        rw [HC.out]
  · have hX : bat (512 / s) = (512 / s) := by unfold bat; omega
    rw [hX] at HC
    have b4' := b4.alloc (.cells #[.int .i64 s, .int .i64 4, .int .i64 (512 / s)] 24)
    have b5 := Blk.new (w.alloc (.cells #[.int .i64 0, .int .i64 0, .int .i64 0] 24)) 24 #[.int .i64 s, .int .i64 4, .int .i64 (512 / s)]
    have ho5 := ho4.alloc (.cells #[.int .i64 s, .int .i64 4, .int .i64 (512 / s)] 24)
    rw [World.size_alloc] at b5
    clear b4 ho4 hX
    generalize ((w.alloc (.cells #[.int .i64 0, .int .i64 0, .int .i64 0] 24)).alloc (.cells #[.int .i64 s, .int .i64 4, .int .i64 (512 / s)] 24)) = w2 at *
    go_loopw [6] (fun t wr => ∃ p : Nat, p ≤ 4 ∧ t = .int .i64 p ∧ Only [] w wr ∧ Blk wr w.heap.size 24 #[.int .i64 0, .int .i64 0, .int .i64 0] ∧ Blk wr (w.heap.size + 1) 24 #[.int .i64 s, .int .i64 (pgDown s waste p), .int .i64 (512 / s)]) (fun t _ => (intOf t).toNat)
    case atStart => exact ⟨4, Nat.le_refl _, rfl, ho5, b4', b5⟩
    case round =>
      obtain ⟨p, hp, rfl, ho, c4, c5⟩ := hrel
      by_cases hlt : 1 ≤ p
      · obtain ⟨k, rfl⟩ : ∃ k, p = k + 1 := ⟨p - 1, by omega⟩
        have m0 : 0 ≤ ((k : Int) + 1) * 256 % s := Int.emod_nonneg _ (by omega)
        have m1 : ((k : Int) + 1) * 256 % s < s := Int.emod_lt_of_pos _ (by omega)
        have m2 : 0 ≤ waste * (((k : Int) + 1) * 256 % s) := Int.mul_nonneg (by omega) m0
        have m3 : waste * (((k : Int) + 1) * 256 % s) ≤ 16 * s := Int.mul_le_mul h4 (by omega) m0 (by omega)
        have HB : Hid (pgOk s waste ((k : Int) + 1) = (decide (s ≤ ((k : Int) + 1) * 256) && decide (((k : Int) + 1) * 256 % s * waste ≤ ((k : Int) + 1) * 256))) := rfl
        have HY := Lib.hid (pgDown_yes (s := s) (waste := waste) (p := k) (by omega))
        have HN := Lib.hid (pgDown_no (s := s) (waste := waste) (p := k) (by omega))
        have hr : (((k + 1 : Nat)) : Int) = (k : Int) + 1 := by omega
        by_cases e1 : s ≤ ((k : Int) + 1) * 256
        · have d1 : decide (s ≤ ((k : Int) + 1) * 256) = true := decide_eq_true e1
          by_cases e2 : waste * (((k : Int) + 1) * 256 % s) ≤ ((k : Int) + 1) * 256
          · have d2 : decide (waste * (((k : Int) + 1) * 256 % s) ≤ ((k : Int) + 1) * 256) = true := decide_eq_true e2
            have HE := Lib.hid (HY.out (by rw [HB.out, d1, Int.mul_comm, d2]; rfl))
            have c5' := c5.set_ 1 (.int .i64 ((k : Int) + 1))
            have c4' := c4.far (p := ⟨w.heap.size + 1, 1, none⟩) (by simp) (.int .i64 ((k : Int) + 1))
            have z1 := c5.cell_ 1 rfl
            have f1 := c5.frozen 1
            clear HB HY HN e1 e2
            go_wp2_with fail
            go_roundw
            case rel => exact ⟨k, by omega, by go_num, ho.setCell (.inr (by simp)) _, c4', by rw [HE.out]; exact c5'⟩
            case measure => simp [intOf]
          · have d2 : decide (waste * (((k : Int) + 1) * 256 % s) ≤ ((k : Int) + 1) * 256) = false := decide_eq_false e2
            have HE := Lib.hid (HN.out (by rw [HB.out, d1, Int.mul_comm, d2]; rfl))
            clear HB HY HN e1 e2
            go_wp2_with fail
            go_roundw
            case rel => exact ⟨k, by omega, by go_num, ho, c4, by rw [HE.out]; exact c5⟩
            case measure => simp [intOf]
        · have d1 : decide (s ≤ ((k : Int) + 1) * 256) = false := decide_eq_false e1
          have HE := Lib.hid (HN.out (by rw [HB.out, d1]; rfl))
          clear HB HY HN e1
          go_wp2_with fail
          go_roundw
          case rel => exact ⟨k, by omega, by go_num, ho, c4, by rw [HE.out]; exact c5⟩
          case measure => simp [intOf]
      · have e : p = 0 := by omega
        subst e
        rw [pgDown_zero] at c5
        have z0 := c5.cell_ 0 rfl
        have z1 := c5.cell_ 1 rfl
        have z2 := c5.cell_ 2 rfl
        have y0 := c4.cell_ 0 rfl
        have y1 := c4.cell_ 1 rfl
        have y2 := c4.cell_ 2 rfl
        have f0 := c4.frozen 0
        have f1 := c4.frozen 1
        have f2 := c4.frozen 2
        go_wp2_with fail
        have g := ((c4.set_ 0 (.int .i64 s)).set_ 1 (.int .i64 (pgs s waste))).set_ 2 (.int .i64 (512 / s))
        have q0 := g.cell_ 0 (v := .int .i64 s) rfl
        have q1 := g.cell_ 1 (v := .int .i64 (pgs s waste)) rfl
        have q2 := g.cell_ 2 (v := .int .i64 (512 / s)) rfl
        refine bodyPost_ret (v := .agg #[.int .i64 s, .int .i64 (pgs s waste), .int .i64 (512 / s)]) (by simp [results, Try.results35, go_sem, q0, q1, q2]) rfl ⟨?_, ((ho.setCell (.inr (Nat.le_refl _)) _).setCell (.inr (Nat.le_refl _)) _).setCell (.inr (Nat.le_refl _)) _⟩
        rw [HC.out]
end Go.Proofs.Ytgicapdiiknbiaa

/- The worst slack: contracts of Worst and of the reference's Worst. -/
import Derived.Test.YtgicapdiiknbiaaSzL
set_option linter.unusedVariables false
set_option linter.unusedSimpArgs false
namespace Go.Proofs.Ytgicapdiiknbiaa
open Go.RowKit

/-- The worst size, and its slack, among the first m sizes. -/
def worstTo (l : List Cl) : Nat → Int × Int
  | 0 => (1, 0)
  | m + 1 => if (worstTo l m).2 * ((m : Int) + 1) < (slackOf l ((m : Int) + 1)).1 * (worstTo l m).1 then ((m : Int) + 1, (slackOf l ((m : Int) + 1)).1) else worstTo l m

/-- The greatest size of a list. -/
def topS (l : List Cl) : Int := (cAt l (l.length - 1)).s

theorem slackOf_bounds {l : List Cl} (h : isTable l) (size : Int) (h1 : 1 ≤ size) : 0 ≤ (slackOf l size).1 ∧ (slackOf l size).1 ≤ 512 := by
  unfold slackOf
  split
  · rename_i h3
    obtain ⟨ht, _, _, k, hk, hk1, hk2, hk3⟩ := clsOf_ok h3
    rw [hk]
    show 0 ≤ (cAt l ((k : Int)).toNat).s - size ∧ (cAt l ((k : Int)).toNat).s - size ≤ 512
    rw [Int.toNat_natCast]
    have hb := h.at_ k hk1
    unfold fitsC at hk2
    simp only [Bool.and_eq_true, decide_eq_true_eq] at hk2
    omega
  · simp

theorem worstTo_bounds {l : List Cl} (h : isTable l) (m : Nat) : 1 ≤ (worstTo l m).1 ∧ (worstTo l m).1 ≤ m + 1 ∧ 0 ≤ (worstTo l m).2 ∧ (worstTo l m).2 ≤ 512 := by
  induction m with
  | zero => simp [worstTo]
  | succ m ih =>
    unfold worstTo
    have := slackOf_bounds h ((m : Int) + 1) (by omega)
    split <;> simp <;> omega

/-- What Worst returns. -/
def worstOf (l : List Cl) : Int × Int × Int := if isTable l then ((worstTo l (topS l).toNat).1, (worstTo l (topS l).toNat).2, 0) else (0, 0, 2)

set_option maxRecDepth 100000 in
set_option maxHeartbeats 4000000 in
theorem Worst_any (w : World) (A : Option Addr) (n c : Nat) (l : List Cl) (hr : ReadsC w A n l) (hn : n ≤ 9223372036854775807) :
    Grew Try.prog 29 #[.slice A n c] w (.tuple #[.int .i64 (worstOf l).1, .int .i64 (worstOf l).2.1, .int .i64 (worstOf l).2.2]) := by
  have CV := Valid_any w A n c l hr hn
  by_cases ht : isTable l
  · have HE : Hid (worstOf l = ((worstTo l (topS l).toNat).1, (worstTo l (topS l).toNat).2, 0)) := by show _ = _; unfold worstOf; rw [if_pos ht]
    rw [decide_eq_true ht] at CV
    have HV := Lib.hid CV
    have HT := Lib.hid ht
    have HR := Lib.hid hr
    have HL := Lib.hid hr.1
    have hn1 : 1 ≤ n ∧ n ≤ 40 := by have := ht.1; have := ht.2.1; have := hr.1; omega
    have hb := ht.at_ (n - 1) (by rw [hr.1]; omega)
    obtain ⟨ad, rfl, _, _, _⟩ := hr.at_ (k := n - 1) (by omega)
    have hy : topS l = (cAt l (n - 1)).s := by unfold topS; rw [hr.1]
    obtain ⟨y, hyy⟩ : ∃ y, y = (cAt l (n - 1)).s := ⟨_, rfl⟩
    rw [← hyy] at hb hy
    have HC := Lib.hid (fun W (ho : Only [] w W) => (by obtain ⟨_, e, q0, _, _⟩ := (hr.still ho).at_ (k := n - 1) (by omega); injection e with e; subst e; rwa [← hyy] at q0 : W.cell? (ad.add ((n - 1) * 3)) = some (.int .i64 y)))
    have HS := Lib.hid (fun W (ho : Only [] w W) size (h : I64 size) => Slack_any W (some ad) n c l (hr.still ho) hn size h)
    rw [hy] at HE
    clear hr ht CV hy hyy
    obtain ⟨hb1, hb2⟩ := hb
    obtain ⟨hn1, hn2⟩ := hn1
    go_enter Try.func29, Try.ntmps29
    go_wp2_with (first | (go_at_call 18; refine Grew.use HV.out (fun w1 ho1 => ?_)))
    go_loopw [5, 6, 7] (fun t5 t6 t7 wr => ∃ m : Nat, (m : Int) ≤ y ∧ t7 = .int .i64 ((m : Int) + 1) ∧ t5 = .int .i64 (worstTo l m).1 ∧ t6 = .int .i64 (worstTo l m).2 ∧ Only [] w wr) (fun _ _ t7 _ => 1000 - (intOf t7).toNat)
    case atStart => exact ⟨0, by omega, rfl, rfl, rfl, ho1⟩
    case round =>
      obtain ⟨m, hm, rfl, rfl, rfl, ho⟩ := hrel
      have q0 := HC.out _ ho
      by_cases hlt : (m : Int) + 1 ≤ y
      · have d1 : decide ((m : Int) + 1 ≤ y) = true := decide_eq_true hlt
        have HSS := Lib.hid (HS.out _ ho ((m : Int) + 1) (by unfold I64; omega))
        have hsb := slackOf_bounds HT.out ((m : Int) + 1) (by omega)
        have hwb := worstTo_bounds HT.out m
        have HW : Hid (worstTo l (m + 1) = if (worstTo l m).2 * ((m : Int) + 1) < (slackOf l ((m : Int) + 1)).1 * (worstTo l m).1 then ((m : Int) + 1, (slackOf l ((m : Int) + 1)).1) else worstTo l m) := rfl
        generalize slackOf l ((m : Int) + 1) = r at *
        generalize hww : worstTo l m = q at *
        have HWW := Lib.hid hww
        clear hww
        obtain ⟨r1, r2⟩ := r
        obtain ⟨q1, q2⟩ := q
        dsimp only at hsb hwb HSS
        obtain ⟨s1, s2⟩ := hsb
        obtain ⟨b1, b2, b3, b4⟩ := hwb
        have g1 : 0 ≤ r1 * q1 ∧ r1 * q1 ≤ 512 * 512 := ⟨Int.mul_nonneg s1 (by omega), Int.mul_le_mul s2 (by omega) (by omega) (by omega)⟩
        have g2 : 0 ≤ q2 * ((m : Int) + 1) ∧ q2 * ((m : Int) + 1) ≤ 512 * 512 := ⟨Int.mul_nonneg b3 (by omega), Int.mul_le_mul b4 (by omega) (by omega) (by omega)⟩
        by_cases hd : q2 * ((m : Int) + 1) < r1 * q1
        · have d2 : decide (q2 * ((m : Int) + 1) < r1 * q1) = true := decide_eq_true hd
          have HX := Lib.hid (HW.out.trans (if_pos hd))
          clear HW hd
          go_wp2_with (first | (go_at_call 27; with_reducible refine Grew.use HSS.out (fun w2 ho2 => ?_)))
          go_roundw
          case rel => exact ⟨m + 1, by omega, by go_num, by rw [HX.out], by rw [HX.out], ho.trans ho2⟩
          case measure => simp [intOf]; omega
        · have d2 : decide (q2 * ((m : Int) + 1) < r1 * q1) = false := decide_eq_false hd
          have HX := Lib.hid (HW.out.trans (if_neg hd))
          clear HW hd
          go_wp2_with (first | (go_at_call 27; with_reducible refine Grew.use HSS.out (fun w2 ho2 => ?_)))
          go_roundw
          case rel => exact ⟨m + 1, by omega, by go_num, by rw [HX.out], by rw [HX.out], ho.trans ho2⟩
          case measure => simp [intOf]; omega
      · have d1 : decide ((m : Int) + 1 ≤ y) = false := decide_eq_false hlt
        have hmy : y.toNat = m := by omega
        rw [hmy] at HE
        go_wp2_with fail
        go_ret3
        exact ⟨by rw [HE.out]; rfl, ho⟩
  · have HE : Hid (worstOf l = (0, 0, 2)) := by show _ = _; unfold worstOf; rw [if_neg ht]
    rw [decide_eq_false ht] at CV
    have HV := Lib.hid CV
    clear ht CV hr
    go_enter Try.func29, Try.ntmps29
    go_wp2_with (first | (go_at_call 18; refine Grew.use HV.out (fun w1 ho1 => ?_)))
    go_ret3
    exact ⟨by rw [HE.out]; rfl, ho1⟩
end Go.Proofs.Ytgicapdiiknbiaa

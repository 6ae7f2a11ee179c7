/- The reference's Worst, and the walks of SizesWorsts and SizesRatio. -/
import Derived.Test.YtgicapdiiknbiaaSzR
set_option linter.unusedVariables false
set_option linter.unusedSimpArgs false
namespace Go.Proofs.Ytgicapdiiknbiaa
open Go.RowKit

set_option maxRecDepth 100000 in
set_option maxHeartbeats 4000000 in
theorem rWorst_any (w : World) (A : Option Addr) (n c : Nat) (l : List Cl) (hr : ReadsC w A n l) (hn : n ≤ 9223372036854775807) :
    Grew Try.prog 30 #[.slice A n c] w (.tuple #[.int .i64 (worstOf l).1, .int .i64 (worstOf l).2.1, .int .i64 (worstOf l).2.2]) := by
  have CV := rValid_any w A n c l hr hn
  by_cases ht : isTable l
  · have HE : Hid (worstOf l = ((worstTo l (topS l).toNat).1, (worstTo l (topS l).toNat).2, 0)) := by show _ = _; unfold worstOf; rw [if_pos ht]
    rw [decide_eq_true ht] at CV
    have HV := Lib.hid CV
    have HT := Lib.hid ht
    have HR := Lib.hid hr
    have HL := Lib.hid hr.1
    have hn1 : 1 ≤ n ∧ n ≤ 40 := by have := ht.1; have := ht.2.1; have := hr.1; omega
    have hb := ht.at_ (n - 1) (by rw [hr.1]; omega)
    obtain ⟨ad, rfl, _, _, _⟩ := hr.at_ (k := n - 1) (by omega)
    have hy : topS l = (cAt l (n - 1)).s := by unfold topS; rw [hr.1]
    obtain ⟨y, hyy⟩ : ∃ y, y = (cAt l (n - 1)).s := ⟨_, rfl⟩
    rw [← hyy] at hb hy
    have HC := Lib.hid (fun W (ho : Only [] w W) => (by obtain ⟨_, e, q0, _, _⟩ := (hr.still ho).at_ (k := n - 1) (by omega); injection e with e; subst e; rwa [← hyy] at q0 : W.cell? (ad.add ((n - 1) * 3)) = some (.int .i64 y)))
    have HS := Lib.hid (fun W (ho : Only [] w W) size (h : I64 size) => rSlack_any W (some ad) n c l (hr.still ho) hn size h)
    rw [hy] at HE
    clear hr ht CV hy hyy
    obtain ⟨hb1, hb2⟩ := hb
    obtain ⟨hn1, hn2⟩ := hn1
    go_enter Try.func30, Try.ntmps30
    go_wp2_with (first | (go_at_call 19; refine Grew.use HV.out (fun w1 ho1 => ?_)))
    go_loopw [5, 6, 7] (fun t5 t6 t7 wr => ∃ m : Nat, (m : Int) ≤ y ∧ t7 = .int .i64 ((m : Int) + 1) ∧ t5 = .int .i64 (worstTo l m).1 ∧ t6 = .int .i64 (worstTo l m).2 ∧ Only [] w wr) (fun _ _ t7 _ => 1000 - (intOf t7).toNat)
    case atStart => exact ⟨0, by omega, rfl, rfl, rfl, ho1⟩
    case round =>
      obtain ⟨m, hm, rfl, rfl, rfl, ho⟩ := hrel
      have q0 := HC.out _ ho
      by_cases hlt : (m : Int) + 1 ≤ y
      · have d1 : decide ((m : Int) + 1 ≤ y) = true := decide_eq_true hlt
        have HSS := Lib.hid (HS.out _ ho ((m : Int) + 1) (by unfold I64; omega))
        have hsb := slackOf_bounds HT.out ((m : Int) + 1) (by omega)
        have hwb := worstTo_bounds HT.out m
        have HW : Hid (worstTo l (m + 1) = if (worstTo l m).2 * ((m : Int) + 1) < (slackOf l ((m : Int) + 1)).1 * (worstTo l m).1 then ((m : Int) + 1, (slackOf l ((m : Int) + 1)).1) else worstTo l m) := rfl
        generalize slackOf l ((m : Int) + 1) = r at *
        generalize hww : worstTo l m = q at *
        have HWW := Lib.hid hww
        clear hww
        obtain ⟨r1, r2⟩ := r
        obtain ⟨q1, q2⟩ := q
        dsimp only at hsb hwb HSS
        obtain ⟨s1, s2⟩ := hsb
        obtain ⟨b1, b2, b3, b4⟩ := hwb
        have g1 : 0 ≤ r1 * q1 ∧ r1 * q1 ≤ 512 * 512 := ⟨Int.mul_nonneg s1 (by omega), Int.mul_le_mul s2 (by omega) (by omega) (by omega)⟩
        have g2 : 0 ≤ q2 * ((m : Int) + 1) ∧ q2 * ((m : Int) + 1) ≤ 512 * 512 := ⟨Int.mul_nonneg b3 (by omega), Int.mul_le_mul b4 (by omega) (by omega) (by omega)⟩
        by_cases hd : q2 * ((m : Int) + 1) < r1 * q1
        · have d2 : decide (q2 * ((m : Int) + 1) < r1 * q1) = true := decide_eq_true hd
          have HX := Lib.hid (HW.out.trans (if_pos hd))
          clear HW hd
          go_wp2_with (first | (go_at_call 28; with_reducible refine Grew.use HSS.out (fun w2 ho2 => ?_)))
          go_roundw
          case rel => exact ⟨m + 1, by omega, by go_num, by rw [HX.out], by rw [HX.out], ho.trans ho2⟩
          case measure => simp [intOf]; omega
        · have d2 : decide (q2 * ((m : Int) + 1) < r1 * q1) = false := decide_eq_false hd
          have HX := Lib.hid (HW.out.trans (if_neg hd))
          clear HW hd
          go_wp2_with (first | (go_at_call 28; with_reducible refine Grew.use HSS.out (fun w2 ho2 => ?_)))
          go_roundw
          case rel => exact ⟨m + 1, by omega, by go_num, by rw [HX.out], by rw [HX.out], ho.trans ho2⟩
          case measure => simp [intOf]; omega
      · have d1 : decide ((m : Int) + 1 ≤ y) = false := decide_eq_false hlt
        have hmy : y.toNat = m := by omega
        rw [hmy] at HE
        go_wp2_with fail
        go_ret3
        exact ⟨by rw [HE.out]; rfl, ho⟩
  · have HE : Hid (worstOf l = (0, 0, 2)) := by show _ = _; unfold worstOf; rw [if_neg ht]
    rw [decide_eq_false ht] at CV
    have HV := Lib.hid CV
    clear ht CV hr
    go_enter Try.func30, Try.ntmps30
    go_wp2_with (first | (go_at_call 19; refine Grew.use HV.out (fun w1 ho1 => ?_)))
    go_ret3
    exact ⟨by rw [HE.out]; rfl, ho1⟩

set_option maxRecDepth 100000 in
set_option maxHeartbeats 4000000 in
theorem SizesWorsts_walk (w : World) (A : Option Addr) (n c : Nat) (l : List Cl) (hr : ReadsC w A n l) (hn : n ≤ 9223372036854775807) :
    Grew Try.prog 12 #[.slice A n c] w (.bool true) := by
  have HR := Lib.hid hr
  clear hr
  by_cases hg : 200 < n
  · have d0 : decide (200 < (n : Int)) = true := decide_eq_true (by omega)
    go_enter Try.func12, Try.ntmps12
    go_wp2_with (first | (go_at_call 14; refine Grew.use (alive_any _) (fun w1 ho1 => ?_)))
    go_ret
    exact ⟨rfl, ho1⟩
  · have d0 : decide (200 < (n : Int)) = false := decide_eq_false (by omega)
    have H1 := Lib.hid (Worst_any w A n c l HR.out hn)
    have H2 := Lib.hid (fun W (ho : Only [] w W) => rWorst_any W A n c l (HR.out.still ho) hn)
    generalize worstOf l = r at *
    obtain ⟨r1, r2, r3⟩ := r
    dsimp only at H1 H2
    go_enter Try.func12, Try.ntmps12
    go_wp2_with (first
      | (go_at_call 29; with_reducible refine Grew.use H1.out (fun w1 ho1 => ?_))
      | (go_at_call 30; with_reducible refine Grew.use (H2.out _ ho1) (fun w2 ho2 => ?_))
      | (go_at_call 14; with_reducible refine Grew.use (alive_any _) (fun w5 ho5 => ?_)))
    go_ret
    exact ⟨rfl, ho1.trans (ho2.trans ho5)⟩

theorem isTable.mono {l : List Cl} (h : isTable l) : ∀ d k, k + d < l.length → (cAt l k).s ≤ (cAt l (k + d)).s := by
  intro d
  induction d with
  | zero => intro k _; exact Int.le_refl _
  | succ d ih =>
    intro k hk
    have h1 := ih k (by omega)
    have h2 := (h.2.2 (k + d + 1) (by omega)).2 (by omega)
    have e : k + d + 1 - 1 = k + d := by omega
    rw [e] at h2
    have e2 : k + (d + 1) = k + d + 1 := by omega
    rw [e2]
    omega

theorem clsOf_found {l : List Cl} (h : isTable l) (size : Int) : (clsOf l size 1).2 = 0 ↔ 1 ≤ size ∧ size ≤ topS l := by
  constructor
  · intro h0
    obtain ⟨_, h1, _, k, _, hk1, hk2, _⟩ := clsOf_ok h0
    unfold fitsC at hk2
    simp only [Bool.and_eq_true, decide_eq_true_eq] at hk2
    have h2 := h.mono (l.length - 1 - k) k (by omega)
    have e : k + (l.length - 1 - k) = l.length - 1 := by omega
    rw [e] at h2
    unfold topS
    omega
  · rintro ⟨h1, h2⟩
    unfold clsOf
    rw [if_neg (by simpa using h), if_neg (by simp only [Decidable.not_not]; exact ⟨h1, Or.inl rfl⟩), if_pos]
    rw [List.findIdx_lt_length]
    have hl : l.length - 1 < l.length := by have := h.1; omega
    refine ⟨l[l.length - 1], List.getElem_mem hl, ?_⟩
    have e : cAt l (l.length - 1) = l[l.length - 1] := by simp [cAt, List.getD_eq_getElem?_getD, List.getElem?_eq_getElem hl]
    unfold topS at h2
    rw [e] at h2
    unfold fitsC
    simp only [Bool.and_eq_true, decide_eq_true_eq]
    omega

theorem slackOf_found {l : List Cl} (h : isTable l) (size : Int) : (slackOf l size).2 = 0 ↔ 1 ≤ size ∧ size ≤ topS l := by
  rw [← clsOf_found h]
  unfold slackOf
  split
  · rename_i h1; simp [h1]
  · rename_i h1; exact Iff.rfl

theorem ratio_step {z a q s r x : Int} (ha : 1 ≤ a) (hs : 1 ≤ s) (hz : 1 ≤ z) (h1 : x * a ≤ q * z) (h2 : q * s < r * a) : x * s ≤ r * z := by
  have h3 : (x * a) * s ≤ (q * z) * s := Int.mul_le_mul_of_nonneg_right h1 (by omega)
  have h4 : (q * s) * z ≤ (r * a) * z := Int.mul_le_mul_of_nonneg_right (by omega) (by omega)
  have h5 : (x * s) * a ≤ (r * z) * a := by
    have e1 : (x * s) * a = (x * a) * s := by rw [Int.mul_assoc, Int.mul_comm s a, ← Int.mul_assoc]
    have e2 : (r * z) * a = (r * a) * z := by rw [Int.mul_assoc, Int.mul_comm z a, ← Int.mul_assoc]
    have e3 : (q * z) * s = (q * s) * z := by rw [Int.mul_assoc, Int.mul_comm z s, ← Int.mul_assoc]
    omega
  exact Int.le_of_mul_le_mul_right h5 (by omega)

theorem worstTo_ratio {l : List Cl} (h : isTable l) (m : Nat) (h1 : 1 ≤ m) (h2 : (m : Int) ≤ topS l) : slackOf l (worstTo l m).1 = ((worstTo l m).2, 0) ∧ (worstTo l m).1 ≤ m ∧ ∀ z : Int, 1 ≤ z → z ≤ m → (slackOf l z).1 * (worstTo l m).1 ≤ (worstTo l m).2 * z := by
  induction m with
  | zero => omega
  | succ m ih =>
    have hf := (slackOf_found h ((m : Int) + 1)).2 ⟨by omega, by omega⟩
    have hfe : slackOf l ((m : Int) + 1) = ((slackOf l ((m : Int) + 1)).1, 0) := by rw [← hf]
    have hw := worstTo_bounds h m
    unfold worstTo
    rcases Nat.eq_zero_or_pos m with h0 | h0
    · subst h0
      have hsb := slackOf_bounds h ((0 : Nat) + 1 : Int) (by omega)
      have e1 : worstTo l 0 = (1, 0) := rfl
      have e2 : (((0 : Nat) : Int) + 1) = 1 := rfl
      simp only [e1, e2] at hfe hsb ⊢
      have hz : ∀ z : Int, 1 ≤ z → z ≤ ((0 + 1 : Nat) : Int) → z = 1 := by omega
      split
      · refine ⟨hfe, by simp, fun z hz1 hz2 => ?_⟩
        rw [hz z hz1 hz2]
        exact Int.le_refl _
      · rename_i hq
        have e0 : (slackOf l 1).1 = 0 := by simp at hq; omega
        rw [e0] at hfe
        refine ⟨hfe, by simp, fun z hz1 hz2 => ?_⟩
        rw [hz z hz1 hz2, e0]
        simp
    · obtain ⟨i1, i2, i3⟩ := ih (by omega) (by omega)
      split
      · rename_i hq
        refine ⟨hfe, by simp, fun z hz1 hz2 => ?_⟩
        rcases (by omega : z ≤ m ∨ z = (m : Int) + 1) with hz | hz
        · exact ratio_step hw.1 (by omega) hz1 (i3 z hz1 hz) hq
        · subst hz; exact Int.le_refl _
      · rename_i hq
        refine ⟨i1, by omega, fun z hz1 hz2 => ?_⟩
        rcases (by omega : z ≤ m ∨ z = (m : Int) + 1) with hz | hz
        · exact i3 z hz1 hz
        · subst hz; omega

theorem worstOf_ratio {l : List Cl} (h : isTable l) : ∃ s n : Int, worstOf l = (s, n, 0) ∧ 1 ≤ s ∧ s ≤ 512 ∧ 0 ≤ n ∧ n ≤ 512 ∧ slackOf l s = (n, 0) ∧ ∀ z : Int, (slackOf l z).2 = 0 → 1 ≤ z ∧ 0 ≤ (slackOf l z).1 ∧ (slackOf l z).1 ≤ 512 ∧ (slackOf l z).1 * s ≤ n * z := by
  have hl := h.at_ (l.length - 1) (by have := h.1; omega)
  have ht : topS l = (cAt l (l.length - 1)).s := rfl
  rw [← ht] at hl
  obtain ⟨r1, r2, r3⟩ := worstTo_ratio h (topS l).toNat (by omega) (by omega)
  have hb := worstTo_bounds h (topS l).toNat
  unfold worstOf
  rw [if_pos h]
  refine ⟨_, _, rfl, by omega, by omega, by omega, by omega, r1, fun z hz => ?_⟩
  have hz' := (slackOf_found h z).1 hz
  have hsb := slackOf_bounds h z hz'.1
  exact ⟨hz'.1, hsb.1, hsb.2, r3 z hz'.1 (by omega)⟩

set_option maxRecDepth 100000 in
set_option maxHeartbeats 4000000 in
theorem SizesRatio_walk (w : World) (A : Option Addr) (n c : Nat) (l : List Cl) (hr : ReadsC w A n l) (hn : n ≤ 9223372036854775807) (size : Int) (hs : I64 size) :
    Grew Try.prog 13 #[.slice A n c, .int .i64 size] w (.bool true) := by
  have HR := Lib.hid hr
  clear hr
  by_cases hg : 200 < n
  · have d0 : decide (200 < (n : Int)) = true := decide_eq_true (by omega)
    go_enter Try.func13, Try.ntmps13
    go_wp2_with (first | (go_at_call 14; refine Grew.use (alive_any _) (fun w1 ho1 => ?_)))
    go_ret
    exact ⟨rfl, ho1⟩
  · have d0 : decide (200 < (n : Int)) = false := decide_eq_false (by omega)
    have C1 := Worst_any w A n c l HR.out hn
    by_cases ht : isTable l
    · obtain ⟨s, q, e1, b1, b2, b3, b4, e2, hz⟩ := worstOf_ratio ht
      have hz := hz size
      rw [e1] at C1
      have H1 := Lib.hid C1
      have C2 := fun W (ho : Only [] w W) => Slack_any W A n c l (HR.out.still ho) hn s (by unfold I64; omega)
      rw [e2] at C2
      have H2 := Lib.hid C2
      have H3 := Lib.hid (fun W (ho : Only [] w W) => Slack_any W A n c l (HR.out.still ho) hn size hs)
      clear C1 C2 e1 e2 ht
      generalize slackOf l size = r at *
      obtain ⟨r1, r2⟩ := r
      dsimp only at H1 H2 H3 hz
      have d1 : decide (s < 1) = false := decide_eq_false (by omega)
      have d1' : decide (1 ≤ s) = true := decide_eq_true (by omega)
      by_cases hb : 512 < size
      · have d2 : decide (512 < size) = true := decide_eq_true hb
        clear hz
        go_enter Try.func13, Try.ntmps13
        go_wp2_with (first
          | (go_at_call 29; with_reducible refine Grew.use H1.out (fun w1 ho1 => ?_))
          | (go_at_call 27; with_reducible refine Grew.use (H2.out _ ho1) (fun w2 ho2 => ?_); have hs2 := ho1.trans ho2)
          | (go_at_call 14; with_reducible refine Grew.use (alive_any _) (fun w5 ho5 => ?_)))
        go_ret
        exact ⟨rfl, hs2.trans ho5⟩
      · have d2 : decide (512 < size) = false := decide_eq_false hb
        by_cases h2 : r2 = 0
        · obtain ⟨z1, z2, z3, z4⟩ := hz h2
          have d3 : decide (r1 * s ≤ q * size) = true := decide_eq_true z4
          have g1 : 0 ≤ r1 * s ∧ r1 * s ≤ 512 * 512 := ⟨Int.mul_nonneg z2 (by omega), Int.mul_le_mul z3 (by omega) (by omega) (by omega)⟩
          have g2 : 0 ≤ q * size ∧ q * size ≤ 512 * 512 := ⟨Int.mul_nonneg b3 (by omega), Int.mul_le_mul b4 (by omega) (by omega) (by omega)⟩
          clear hz z4
          subst h2
          go_enter Try.func13, Try.ntmps13
          go_wp2_with (first
            | (go_at_call 29; with_reducible refine Grew.use H1.out (fun w1 ho1 => ?_))
            | (go_at_call 27; with_reducible refine Grew.use (H2.out _ ho1) (fun w2 ho2 => ?_); have hs2 := ho1.trans ho2)
            | (go_at_call 27; with_reducible refine Grew.use (H3.out _ hs2) (fun w3 ho3 => ?_))
            | (go_at_call 14; with_reducible refine Grew.use (alive_any _) (fun w5 ho5 => ?_)))
          go_ret
          exact ⟨rfl, hs2.trans (ho3.trans ho5)⟩
        · have d3 : (r2 == 0) = false := beq_eq_false_iff_ne.2 h2
          have d4 : (r2 != 0) = true := bne_iff_ne.2 h2
          clear hz h2
          go_enter Try.func13, Try.ntmps13
          go_wp2_with (first
            | (go_at_call 29; with_reducible refine Grew.use H1.out (fun w1 ho1 => ?_))
            | (go_at_call 27; with_reducible refine Grew.use (H2.out _ ho1) (fun w2 ho2 => ?_); have hs2 := ho1.trans ho2)
            | (go_at_call 27; with_reducible refine Grew.use (H3.out _ hs2) (fun w3 ho3 => ?_))
            | (go_at_call 14; with_reducible refine Grew.use (alive_any _) (fun w5 ho5 => ?_)))
          go_ret
          exact ⟨rfl, hs2.trans (ho3.trans ho5)⟩
    · have e : worstOf l = (0, 0, 2) := by unfold worstOf; rw [if_neg ht]
      rw [e] at C1
      have H1 := Lib.hid C1
      have H2 := Lib.hid (fun W (ho : Only [] w W) => (by have := rValid_any W A n c l (HR.out.still ho) hn; rwa [decide_eq_false ht] at this : Grew Try.prog 19 #[.slice A n c] W (.bool false)))
      clear C1 e ht
      go_enter Try.func13, Try.ntmps13
      go_wp2_with (first
        | (go_at_call 29; with_reducible refine Grew.use H1.out (fun w1 ho1 => ?_))
        | (go_at_call 19; with_reducible refine Grew.use (H2.out _ ho1) (fun w2 ho2 => ?_))
        | (go_at_call 14; with_reducible refine Grew.use (alive_any _) (fun w5 ho5 => ?_)))
      go_ret
      exact ⟨rfl, ho1.trans (ho2.trans ho5)⟩
end Go.Proofs.Ytgicapdiiknbiaa

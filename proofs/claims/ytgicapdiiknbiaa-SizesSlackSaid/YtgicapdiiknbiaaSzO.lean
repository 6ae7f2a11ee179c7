/- The walks of SizesMade and SizesSlack. -/
import Derived.Test.YtgicapdiiknbiaaSzN
set_option linter.unusedVariables false
set_option linter.unusedSimpArgs false
namespace Go.Proofs.Ytgicapdiiknbiaa
open Go.RowKit

theorem clsOf_made {waste : Int} {l : List Cl} (h : goodT waste l) (size a : Int) (ha : a = 1 ∨ a = 2 ∨ a = 4 ∨ a = 8) : ((clsOf l size a).2 == 0) = decide (1 ≤ size ∧ size ≤ 512) := by
  have hp : isPow a := by unfold isPow; omega
  have h8 : ∀ j, j < l.length → (cAt l j).s % a = 0 ∧ (cAt l j).s ≤ 512 := fun j hj => by
    obtain ⟨h1, h2, h3, _⟩ := (h.1.2.2 j hj).1
    rcases ha with rfl | rfl | rfl | rfl <;> omega
  unfold clsOf
  rw [if_neg (by simpa using h.1)]
  by_cases h1 : 1 ≤ size
  · rw [if_neg (by simp only [Decidable.not_not]; exact ⟨h1, hp⟩)]
    by_cases h2 : size ≤ 512
    · rw [if_pos, decide_eq_true ⟨h1, h2⟩]
      · rfl
      · rw [List.findIdx_lt_length]
        have hl : l.length - 1 < l.length := by have := h.2.1; omega
        refine ⟨l[l.length - 1], List.getElem_mem hl, ?_⟩
        have e : cAt l (l.length - 1) = l[l.length - 1] := by simp [cAt, List.getD_eq_getElem?_getD, List.getElem?_eq_getElem hl]
        rw [← e]
        unfold fitsC
        have e1 := h.2.2.2.1
        have e2 := (h8 _ hl).1
        simp only [Bool.and_eq_true, decide_eq_true_eq]
        omega
    · rw [if_neg, decide_eq_false (by omega)]
      · rfl
      · rw [List.findIdx_lt_length]
        rintro ⟨x, hx, hf⟩
        obtain ⟨j, hj, rfl⟩ := List.getElem_of_mem hx
        have e : cAt l j = l[j] := by simp [cAt, List.getD_eq_getElem?_getD, List.getElem?_eq_getElem hj]
        rw [← e] at hf
        unfold fitsC at hf
        have := (h8 j hj).2
        simp only [Bool.and_eq_true, decide_eq_true_eq] at hf
        omega
  · rw [if_pos (by omega), decide_eq_false (by omega)]
    rfl

/-- Less than half is wasted. -/
theorem slackOf_made {waste : Int} {l : List Cl} (h : goodT waste l) (size : Int) (h1 : 8 ≤ size) (h2 : size ≤ 512) : ∃ k : Int, slackOf l size = (k, 0) ∧ 0 ≤ k ∧ k < size := by
  have h3 : (clsOf l size 1).2 = 0 := by
    have := clsOf_made h size 1 (Or.inl rfl)
    rw [decide_eq_true ⟨by omega, h2⟩] at this
    simpa using this
  obtain ⟨ht, _, _, k, hk, hk1, hk2, hk3⟩ := clsOf_ok h3
  unfold slackOf
  rw [if_pos h3, hk]
  refine ⟨_, rfl, ?_⟩
  unfold fitsC at hk2
  simp only [Bool.and_eq_true, decide_eq_true_eq] at hk2
  show 0 ≤ (cAt l ((k : Int)).toNat).s - size ∧ (cAt l ((k : Int)).toNat).s - size < size
  rw [Int.toNat_natCast]
  rcases Nat.eq_zero_or_pos k with h0 | h0
  · subst h0
    have := h.2.2.1
    omega
  · have h4 := hk3 (k - 1) (by omega)
    have h5 := (h.2.2.2.2.1 k hk1).2 h0
    unfold fitsC at h4
    have h6 : ((cAt l (k - 1)).s % 1) = 0 := by omega
    rw [decide_eq_true h6] at h4
    simp at h4
    have e : cAt l (k - 1) = l.getD (k - 1) Cl.z := rfl
    have h4' : (cAt l (k - 1)).s < size := by simpa [cAt, List.getD_eq_getElem?_getD] using h4
    omega

theorem goodT.n2 {waste : Int} {l : List Cl} (h : goodT waste l) : l.length ≤ 40 := h.1.2.1

set_option maxRecDepth 100000 in
set_option maxHeartbeats 4000000 in
theorem SizesSlack_walk (w : World) (waste : Int) (_ : I64 waste) (size : Int) (hs : I64 size) :
    Grew Try.prog 11 #[.int .i64 waste, .int .i64 size] w (.bool true) := by
  by_cases hw : 2 ≤ waste ∧ waste ≤ 16
  · by_cases h8 : size < 8
    · have d1 : decide (size < 8) = true := decide_eq_true h8
      go_enter Try.func11, Try.ntmps11
      go_wp2_with fail
      refine (Make_reads w waste hw.1 hw.2).mono ?_
      rintro e w1 ⟨A, n, c, rfl, hr, hg, ho1⟩
      go_wp2_with (first | (go_at_call 14; with_reducible refine Grew.use (alive_any _) (fun w5 ho5 => ?_)))
      go_ret
      exact ⟨rfl, ho1.trans ho5⟩
    · have d1 : decide (size < 8) = false := decide_eq_false h8
      by_cases h9 : 512 < size
      · have d2 : decide (512 < size) = true := decide_eq_true h9
        go_enter Try.func11, Try.ntmps11
        go_wp2_with fail
        refine (Make_reads w waste hw.1 hw.2).mono ?_
        rintro e w1 ⟨A, n, c, rfl, hr, hg, ho1⟩
        go_wp2_with (first | (go_at_call 14; with_reducible refine Grew.use (alive_any _) (fun w5 ho5 => ?_)))
        go_ret
        exact ⟨rfl, ho1.trans ho5⟩
      · have d2 : decide (512 < size) = false := decide_eq_false h9
        go_enter Try.func11, Try.ntmps11
        go_wp2_with fail
        refine (Make_reads w waste hw.1 hw.2).mono ?_
        rintro e w1 ⟨A, n, c, rfl, hr, hg, ho1⟩
        have hn : n ≤ 9223372036854775807 := by have := hg.n2; have := hr.1; omega
        have H := Slack_any w1 A n c _ hr hn size hs
        obtain ⟨k, hk, hk1, hk2⟩ := slackOf_made hg size (by omega) (by omega)
        rw [hk] at H
        have HS := Lib.hid H
        have d3 : decide (0 ≤ k) = true := decide_eq_true hk1
        have d4 : decide (k < size) = true := decide_eq_true hk2
        clear H hk hk1 hk2 hg hr
        go_wp2_with (first | (go_at_call 27; with_reducible refine Grew.use HS.out (fun w2 ho2 => ?_)) | (go_at_call 14; with_reducible refine Grew.use (alive_any _) (fun w5 ho5 => ?_)))
        go_ret
        exact ⟨rfl, ho1.trans (ho2.trans ho5)⟩
  · have H := Lib.hid (Make_bad w waste (by omega))
    go_enter Try.func11, Try.ntmps11
    go_wp2_with (first | (go_at_call 22; with_reducible refine Grew.use H.out (fun w1 ho1 => ?_)) | (go_at_call 14; with_reducible refine Grew.use (alive_any _) (fun w5 ho5 => ?_)))
    go_ret
    exact ⟨rfl, ho1.trans ho5⟩

set_option maxRecDepth 100000 in
set_option maxHeartbeats 4000000 in
theorem SizesMade_walk (w : World) (waste : Int) (_ : I64 waste) (size : Int) (hs : I64 size) (al : Int) (hal : 0 ≤ al ∧ al ≤ 255) :
    Grew Try.prog 7 #[.int .i64 waste, .int .i64 size, .int .u8 al] w (.bool true) := by
  by_cases hw : 2 ≤ waste ∧ waste ≤ 16
  · have d1 : decide (waste < 2) = false := decide_eq_false (by omega)
    have d2 : decide (16 < waste) = false := decide_eq_false (by omega)
    go_enter Try.func7, Try.ntmps7
    go_wp2_with fail
    refine (Make_reads w waste hw.1 hw.2).mono ?_
    rintro e w1 ⟨A, n, c, rfl, hr, hg, ho1⟩
    have HR := Lib.hid hr
    have hn : n ≤ 40 := by have := hg.n2; have := hr.1; omega
    have hn2 : 2 ≤ n := by have := hg.2.1; have := hr.1; omega
    have d3 : decide ((n : Int) < 2) = false := decide_eq_false (by omega)
    have H1 := Valid_any w1 A n c _ hr (by omega)
    rw [decide_eq_true hg.1] at H1
    have HV := Lib.hid H1
    obtain ⟨ad, rfl, p0, _, _⟩ := hr.at_ (k := 0) (by omega)
    rw [hg.2.2.1] at p0
    replace p0 : w1.cell? ad = some (.int .i64 8) := by simpa [Addr.add] using p0
    obtain ⟨_, e, q0, _, _⟩ := hr.at_ (k := n - 1) (by omega)
    injection e with e
    subst e
    rw [← hr.1, hg.2.2.2.1, hr.1] at q0
    clear hr H1
    have hp2 : wrap64 (2 ^ (al % 4).toNat) = 1 ∨ wrap64 (2 ^ (al % 4).toNat) = 2 ∨ wrap64 (2 ^ (al % 4).toNat) = 4 ∨ wrap64 (2 ^ (al % 4).toNat) = 8 := by
      have h4 : al % 4 = 0 ∨ al % 4 = 1 ∨ al % 4 = 2 ∨ al % 4 = 3 := by omega
      rcases h4 with h4 | h4 | h4 | h4 <;> rw [h4] <;> decide +kernel
    have hc := clsOf_made hg size _ hp2
    clear hp2
    have H2 := Lib.hid (fun W (ho : Only [] w1 W) => Class_any W (some ad) n c _ (HR.out.still ho) (by omega) size (wrap64 (2 ^ (al % 4).toNat)))
    generalize clsOf (makeC waste) size (wrap64 (2 ^ (al % 4).toNat)) = r at *
    obtain ⟨r1, r2⟩ := r
    dsimp only at hc H2
    clear hg
    by_cases g : 1 ≤ size ∧ size ≤ 512
    · rw [decide_eq_true g] at hc
      have d4 : decide (1 ≤ size) = true := decide_eq_true g.1
      have d5 : decide (size ≤ 512) = true := decide_eq_true g.2
      clear g
      go_wp2_with (first
        | (go_at_call 18; with_reducible refine Grew.use HV.out (fun w2 ho2 => ?_); have P0 := cell_after p0 ⟨w2, ho2⟩; have Q0 := cell_after q0 ⟨w2, ho2⟩; clear p0 q0)
        | (go_at_call 25; with_reducible refine Grew.use (H2.out _ ho2) (fun w3 ho3 => ?_))
        | (go_at_call 14; with_reducible refine Grew.use (alive_any _) (fun w5 ho5 => ?_)))
      go_ret
      exact ⟨rfl, ho1.trans (ho2.trans (ho3.trans ho5))⟩
    · rw [decide_eq_false g] at hc
      by_cases g1 : 1 ≤ size
      · have d4 : decide (1 ≤ size) = true := decide_eq_true g1
        have d5 : decide (size ≤ 512) = false := decide_eq_false (by omega)
        clear g g1
        go_wp2_with (first
          | (go_at_call 18; with_reducible refine Grew.use HV.out (fun w2 ho2 => ?_); have P0 := cell_after p0 ⟨w2, ho2⟩; have Q0 := cell_after q0 ⟨w2, ho2⟩; clear p0 q0)
          | (go_at_call 25; with_reducible refine Grew.use (H2.out _ ho2) (fun w3 ho3 => ?_))
          | (go_at_call 14; with_reducible refine Grew.use (alive_any _) (fun w5 ho5 => ?_)))
        go_ret
        exact ⟨rfl, ho1.trans (ho2.trans (ho3.trans ho5))⟩
      · have d4 : decide (1 ≤ size) = false := decide_eq_false g1
        clear g g1
        go_wp2_with (first
          | (go_at_call 18; with_reducible refine Grew.use HV.out (fun w2 ho2 => ?_); have P0 := cell_after p0 ⟨w2, ho2⟩; have Q0 := cell_after q0 ⟨w2, ho2⟩; clear p0 q0)
          | (go_at_call 25; with_reducible refine Grew.use (H2.out _ ho2) (fun w3 ho3 => ?_))
          | (go_at_call 14; with_reducible refine Grew.use (alive_any _) (fun w5 ho5 => ?_)))
        go_ret
        exact ⟨rfl, ho1.trans (ho2.trans (ho3.trans ho5))⟩
  · have H := Lib.hid (Make_bad w waste (by omega))
    by_cases h1 : waste < 2
    · have d1 : decide (waste < 2) = true := decide_eq_true h1
      clear hw
      go_enter Try.func7, Try.ntmps7
      go_wp2_with (first | (go_at_call 22; with_reducible refine Grew.use H.out (fun w1 ho1 => ?_)) | (go_at_call 14; with_reducible refine Grew.use (alive_any _) (fun w5 ho5 => ?_)))
      go_ret
      exact ⟨rfl, ho1.trans ho5⟩
    · have d1 : decide (waste < 2) = false := decide_eq_false h1
      have d2 : decide (16 < waste) = true := decide_eq_true (by omega)
      clear hw
      go_enter Try.func7, Try.ntmps7
      go_wp2_with (first | (go_at_call 22; with_reducible refine Grew.use H.out (fun w1 ho1 => ?_)) | (go_at_call 14; with_reducible refine Grew.use (alive_any _) (fun w5 ho5 => ?_)))
      go_ret
      exact ⟨rfl, ho1.trans ho5⟩
end Go.Proofs.Ytgicapdiiknbiaa

/- The walks of SizesFinds, SizesMonotone and SizesFits. -/
import Derived.Test.YtgicapdiiknbiaaSzJ
set_option linter.unusedVariables false
set_option linter.unusedSimpArgs false
namespace Go.Proofs.Ytgicapdiiknbiaa
open Go.RowKit

/-- A class that was found. -/
theorem clsOf_ok {l : List Cl} {size align : Int} (h : (clsOf l size align).2 = 0) : isTable l ∧ 1 ≤ size ∧ isPow align ∧ ∃ k : Nat, clsOf l size align = ((k : Int), 0) ∧ k < l.length ∧ fitsC size align (cAt l k) = true ∧ (∀ j, j < k → fitsC size align (cAt l j) = false) := by
  unfold clsOf at h ⊢
  split at h
  · simp at h
  · rename_i h1
    split at h
    · simp at h
    · rename_i h2
      split at h
      · rename_i h3
        simp only [Decidable.not_not] at h1 h2
        refine ⟨h1, h2.1, h2.2, _, by rw [if_neg (by simpa using h1), if_neg (by simpa using h2), if_pos h3], h3, ?_, fun j hj => ?_⟩
        · have h4 := List.findIdx_getElem (p := fitsC size align) (xs := l) (w := h3)
          have e : cAt l (l.findIdx (fitsC size align)) = l[l.findIdx (fitsC size align)] := by simp [cAt, List.getD_eq_getElem?_getD, List.getElem?_eq_getElem h3]
          rw [e]
          exact h4
        · have h4 := List.not_of_lt_findIdx hj
          have e : cAt l j = l[j]'(by omega) := by simp [cAt, List.getD_eq_getElem?_getD, List.getElem?_eq_getElem (show j < l.length by omega)]
          rw [e]
          simpa using h4
      · simp at h

theorem isPow_dvd {a b : Int} (ha : isPow a) (hb : isPow b) (h : a ≤ b) (x : Int) (hx : x % b = 0) : x % a = 0 := by
  unfold isPow at ha hb
  rcases ha with rfl | rfl | rfl | rfl | rfl | rfl | rfl | rfl | rfl <;> rcases hb with rfl | rfl | rfl | rfl | rfl | rfl | rfl | rfl | rfl <;> omega

theorem clsOf_mono {l : List Cl} {size more align wide : Int} (h1 : (clsOf l size align).2 = 0) (h2 : (clsOf l more wide).2 = 0) (h3 : size ≤ more) (h4 : align ≤ wide) : (clsOf l size align).1 ≤ (clsOf l more wide).1 := by
  obtain ⟨ht, _, ha, k, hk, hk1, hk2, hk3⟩ := clsOf_ok h1
  obtain ⟨_, _, hb, j, hj, hj1, hj2, hj3⟩ := clsOf_ok h2
  rw [hk, hj]
  show (k : Int) ≤ j
  rcases Nat.lt_or_ge j k with h | h
  · have h5 := hk3 j h
    unfold fitsC at h5 hj2
    simp only [Bool.and_eq_true, decide_eq_true_eq] at hj2
    have := isPow_dvd ha hb h4 _ hj2.2
    have h6 : decide (size ≤ (cAt l j).s) = true := decide_eq_true (by omega)
    rw [h6, decide_eq_true this] at h5
    cases h5
  · omega

set_option maxRecDepth 100000 in
set_option maxHeartbeats 4000000 in
theorem SizesFinds_walk (w : World) (A : Option Addr) (n c : Nat) (l : List Cl) (hr : ReadsC w A n l) (hn : n ≤ 9223372036854775807) (size : Int) (hs : I64 size) (align : Int) (_ : I64 align) :
    Grew Try.prog 10 #[.slice A n c, .int .i64 size, .int .i64 align] w (.bool true) := by
  have HR := Lib.hid hr
  clear hr
  by_cases hg : 200 < n
  · have d0 : decide (200 < (n : Int)) = true := decide_eq_true (by omega)
    go_enter Try.func10, Try.ntmps10
    go_wp2_with (first | (go_at_call 14; refine Grew.use (alive_any _) (fun w1 ho1 => ?_)))
    go_ret
    exact ⟨rfl, ho1⟩
  · have d0 : decide (200 < (n : Int)) = false := decide_eq_false (by omega)
    have H1 := Lib.hid (Class_any w A n c l HR.out hn size align)
    have H2 := Lib.hid (fun W (ho : Only [] w W) => rClass_any W A n c l (HR.out.still ho) hn size align)
    have H3 := Lib.hid (fun W (ho : Only [] w W) => Slack_any W A n c l (HR.out.still ho) hn size hs)
    have H4 := Lib.hid (fun W (ho : Only [] w W) => rSlack_any W A n c l (HR.out.still ho) hn size hs)
    generalize clsOf l size align = r at *
    generalize slackOf l size = q at *
    obtain ⟨r1, r2⟩ := r
    obtain ⟨q1, q2⟩ := q
    dsimp only at H1 H2 H3 H4
    go_enter Try.func10, Try.ntmps10
    go_wp2_with (first
      | (go_at_call 25; with_reducible refine Grew.use H1.out (fun w1 ho1 => ?_))
      | (go_at_call 26; with_reducible refine Grew.use (H2.out _ ho1) (fun w2 ho2 => ?_); have hs2 := ho1.trans ho2)
      | (go_at_call 27; with_reducible refine Grew.use (H3.out _ hs2) (fun w3 ho3 => ?_); have hs3 := hs2.trans ho3)
      | (go_at_call 28; with_reducible refine Grew.use (H4.out _ hs3) (fun w4 ho4 => ?_))
      | (go_at_call 14; with_reducible refine Grew.use (alive_any _) (fun w5 ho5 => ?_)))
    go_ret
    exact ⟨rfl, hs3.trans (ho4.trans ho5)⟩

set_option maxRecDepth 100000 in
set_option maxHeartbeats 4000000 in
theorem SizesMonotone_walk (w : World) (A : Option Addr) (n c : Nat) (l : List Cl) (hr : ReadsC w A n l) (hn : n ≤ 9223372036854775807) (size : Int) (hs : I64 size) (more : Int) (_ : I64 more) (align : Int) (_ : I64 align) (wide : Int) (_ : I64 wide) :
    Grew Try.prog 6 #[.slice A n c, .int .i64 size, .int .i64 more, .int .i64 align, .int .i64 wide] w (.bool true) := by
  have HR := Lib.hid hr
  clear hr
  by_cases hg : 200 < n ∨ more < size ∨ wide < align
  · by_cases h1 : 200 < n
    · have d0 : decide (200 < (n : Int)) = true := decide_eq_true (by omega)
      go_enter Try.func6, Try.ntmps6
      go_wp2_with (first | (go_at_call 14; refine Grew.use (alive_any _) (fun w1 ho1 => ?_)))
      go_ret
      exact ⟨rfl, ho1⟩
    · have d0 : decide (200 < (n : Int)) = false := decide_eq_false (by omega)
      by_cases h2 : more < size
      · have d1 : decide (more < size) = true := decide_eq_true h2
        go_enter Try.func6, Try.ntmps6
        go_wp2_with (first | (go_at_call 14; refine Grew.use (alive_any _) (fun w1 ho1 => ?_)))
        go_ret
        exact ⟨rfl, ho1⟩
      · have d1 : decide (more < size) = false := decide_eq_false h2
        have d2 : decide (wide < align) = true := decide_eq_true (by omega)
        go_enter Try.func6, Try.ntmps6
        go_wp2_with (first | (go_at_call 14; refine Grew.use (alive_any _) (fun w1 ho1 => ?_)))
        go_ret
        exact ⟨rfl, ho1⟩
  · have d0 : decide (200 < (n : Int)) = false := decide_eq_false (by omega)
    have d1 : decide (more < size) = false := decide_eq_false (by omega)
    have d2 : decide (wide < align) = false := decide_eq_false (by omega)
    have M1 := fun h1 h2 => clsOf_mono (l := l) (size := size) (more := more) (align := align) (wide := align) h1 h2 (by omega) (by omega)
    have M2 := fun h1 h2 => clsOf_mono (l := l) (size := size) (more := size) (align := align) (wide := wide) h1 h2 (by omega) (by omega)
    have H1 := Lib.hid (Class_any w A n c l HR.out hn size align)
    have H2 := Lib.hid (fun W (ho : Only [] w W) => Class_any W A n c l (HR.out.still ho) hn more align)
    have H3 := Lib.hid (fun W (ho : Only [] w W) => Class_any W A n c l (HR.out.still ho) hn size wide)
    clear hg
    generalize clsOf l size align = r at *
    generalize clsOf l more align = q at *
    generalize clsOf l size wide = p at *
    obtain ⟨r1, r2⟩ := r
    obtain ⟨q1, q2⟩ := q
    obtain ⟨p1, p2⟩ := p
    dsimp only at H1 H2 H3 M1 M2
    by_cases h1 : r2 = 0 <;> by_cases h2 : q2 = 0 <;> by_cases h3 : p2 = 0
    · have e1 := decide_eq_true (M1 h1 h2)
      have e2 := decide_eq_true (M2 h1 h3)
      clear M1 M2
      subst h1 h2 h3
      go_enter Try.func6, Try.ntmps6
      go_wp2_with (first
        | (go_at_call 25; with_reducible refine Grew.use H1.out (fun w1 ho1 => ?_))
        | (go_at_call 25; with_reducible refine Grew.use (H2.out _ ho1) (fun w2 ho2 => ?_); have hs2 := ho1.trans ho2)
        | (go_at_call 25; with_reducible refine Grew.use (H3.out _ hs2) (fun w3 ho3 => ?_); have hs3 := hs2.trans ho3)
        | (go_at_call 14; with_reducible refine Grew.use (alive_any _) (fun w5 ho5 => ?_)))
      go_ret
      exact ⟨rfl, hs3.trans ho5⟩
    · have e1 := decide_eq_true (M1 h1 h2)
      have e3 : (p2 == 0) = false := beq_eq_false_iff_ne.2 h3
      have f3 : (p2 != 0) = true := bne_iff_ne.2 h3
      clear M1 M2 h3
      subst h1 h2
      go_enter Try.func6, Try.ntmps6
      go_wp2_with (first
        | (go_at_call 25; with_reducible refine Grew.use H1.out (fun w1 ho1 => ?_))
        | (go_at_call 25; with_reducible refine Grew.use (H2.out _ ho1) (fun w2 ho2 => ?_); have hs2 := ho1.trans ho2)
        | (go_at_call 25; with_reducible refine Grew.use (H3.out _ hs2) (fun w3 ho3 => ?_); have hs3 := hs2.trans ho3)
        | (go_at_call 14; with_reducible refine Grew.use (alive_any _) (fun w5 ho5 => ?_)))
      go_ret
      exact ⟨rfl, hs3.trans ho5⟩
    · have e1 := decide_eq_true (M2 h1 h3)
      have e3 : (q2 == 0) = false := beq_eq_false_iff_ne.2 h2
      have f3 : (q2 != 0) = true := bne_iff_ne.2 h2
      clear M1 M2 h2
      subst h1 h3
      go_enter Try.func6, Try.ntmps6
      go_wp2_with (first
        | (go_at_call 25; with_reducible refine Grew.use H1.out (fun w1 ho1 => ?_))
        | (go_at_call 25; with_reducible refine Grew.use (H2.out _ ho1) (fun w2 ho2 => ?_); have hs2 := ho1.trans ho2)
        | (go_at_call 25; with_reducible refine Grew.use (H3.out _ hs2) (fun w3 ho3 => ?_); have hs3 := hs2.trans ho3)
        | (go_at_call 14; with_reducible refine Grew.use (alive_any _) (fun w5 ho5 => ?_)))
      go_ret
      exact ⟨rfl, hs3.trans ho5⟩
    · have e2 : (q2 == 0) = false := beq_eq_false_iff_ne.2 h2
      have f2 : (q2 != 0) = true := bne_iff_ne.2 h2
      have e3 : (p2 == 0) = false := beq_eq_false_iff_ne.2 h3
      have f3 : (p2 != 0) = true := bne_iff_ne.2 h3
      clear M1 M2 h2 h3
      subst h1
      go_enter Try.func6, Try.ntmps6
      go_wp2_with (first
        | (go_at_call 25; with_reducible refine Grew.use H1.out (fun w1 ho1 => ?_))
        | (go_at_call 25; with_reducible refine Grew.use (H2.out _ ho1) (fun w2 ho2 => ?_); have hs2 := ho1.trans ho2)
        | (go_at_call 25; with_reducible refine Grew.use (H3.out _ hs2) (fun w3 ho3 => ?_); have hs3 := hs2.trans ho3)
        | (go_at_call 14; with_reducible refine Grew.use (alive_any _) (fun w5 ho5 => ?_)))
      go_ret
      exact ⟨rfl, hs3.trans ho5⟩
    all_goals
      have e1 : (r2 == 0) = false := beq_eq_false_iff_ne.2 h1
      have f1 : (r2 != 0) = true := bne_iff_ne.2 h1
      clear M1 M2 h1 h2 h3
      go_enter Try.func6, Try.ntmps6
      go_wp2_with (first
        | (go_at_call 25; with_reducible refine Grew.use H1.out (fun w1 ho1 => ?_))
        | (go_at_call 25; with_reducible refine Grew.use (H2.out _ ho1) (fun w2 ho2 => ?_); have hs2 := ho1.trans ho2)
        | (go_at_call 25; with_reducible refine Grew.use (H3.out _ hs2) (fun w3 ho3 => ?_); have hs3 := hs2.trans ho3)
        | (go_at_call 14; with_reducible refine Grew.use (alive_any _) (fun w5 ho5 => ?_)))
      go_ret
      exact ⟨rfl, hs3.trans ho5⟩
end Go.Proofs.Ytgicapdiiknbiaa

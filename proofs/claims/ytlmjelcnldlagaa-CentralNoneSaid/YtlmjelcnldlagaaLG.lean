/- slices.BinarySearchFunc among the entries, by their starts. -/
import Derived.Test.YtlmjelcnldlagaaLF
set_option linter.unusedVariables false
set_option linter.unusedSimpArgs false
namespace Go.Proofs.Ytlmjelcnldlagaa
open Go.RowKit

theorem cmp_any (w : World) (m s x : Int) (p : Value) (hp : p.oneCell' = true) (hs : 0 ≤ s ∧ s ≤ 1024) (hx : 0 ≤ x ∧ x ≤ 1024) : Grew Try.prog 50 #[.agg #[.int .i64 m, .int .i64 s, p], .int .i64 x] w (.int .i64 (s - x)) := by
  obtain ⟨s1, s2⟩ := hs
  obtain ⟨x1, x2⟩ := hx
  have ho := (Only.refl [] w).alloc (.cells #[.int .i64 m, .int .i64 s, p] 75)
  go_enter Try.func50, Try.ntmps50
  go_wp2_with fail
  go_ret
  exact ⟨rfl, ho⟩

/-- Where a start belongs. -/
def posTo (M : List Sp) (x : Int) : Nat → Nat
  | 0 => 0
  | k + 1 => if (sAt M k).start < x then k + 1 else posTo M x k
theorem posTo_le (M : List Sp) (x : Int) (k : Nat) : posTo M x k ≤ k := by
  induction k with
  | zero => exact Nat.le_refl _
  | succ k ih => rw [posTo]; split <;> omega
/-- The place at which the starts that are less end. -/
theorem posTo_eq {M : List Sp} {x : Int} {n i : Nat} (hi : i ≤ n) (h1 : ∀ j, j < i → (sAt M j).start < x) (h2 : ∀ j, i ≤ j → j < n → ¬ (sAt M j).start < x) : posTo M x n = i := by
  induction n with
  | zero => rw [posTo]; omega
  | succ n ih =>
    rw [posTo]
    by_cases h : i ≤ n
    · rw [if_neg (h2 n h (by omega))]
      exact ih h (fun j a b => h2 j a (by omega))
    · have : i = n + 1 := by omega
      subst this
      rw [if_pos (h1 n (by omega))]

set_option maxRecDepth 100000 in
set_option maxHeartbeats 4000000 in
theorem bsearch_any {w : World} {P : Nat} {A : Value} {c : Cl} {L : List En} (h : ListAt w P A c L) (x : Int) (hx : 0 ≤ x ∧ x ≤ 1024) :
    Calls Try.prog 49 #[A, .int .i64 x, .func (.func 50) #[] #[]] w fun e w' => Only [] w w' ∧ ∃ f : Bool, e = .returned (.tuple #[.int .i64 (posTo (spans L) x L.length : Nat), .bool f]) := by
  obtain ⟨ad, cp, rfl⟩ := h.slice
  have HA := Lib.hid h
  have hn := h.len
  obtain ⟨N, hN⟩ : ∃ N, N = L.length := ⟨_, rfl⟩
  rw [← hN] at hn ⊢
  have HN := Lib.hid hN
  have HST := Lib.hid (fun j (hj : j < N) => show 0 ≤ (eAt L j).s.start ∧ (eAt L j).s.start ≤ 1024 from (by
    have g := (h.get (show j < L.length by rw [← hN]; exact hj)).1.good
    have := g.b1
    have := g.b2
    have := g.p1
    omega))
  have HORD := Lib.hid (fun i j (hij : i < j) (hj : j < N) => show (eAt L i).s.start < (eAt L j).s.start from (by
    have g := (h.get (show i < L.length by rw [← hN]; omega)).1.good
    have := (h.apart hij (show j < L.length by rw [← hN]; exact hj)).ord
    have := g.p1
    omega))
  have HX := Lib.hid hx
  clear h hN hx
  go_enter Try.func49, Try.ntmps49
  go_wp2_with fail
  go_loopw [9, 10] (fun a b wr => ∃ lo hi : Nat, a = .int .i64 lo ∧ b = .int .i64 hi ∧ lo ≤ hi ∧ hi ≤ N ∧ Only [] w wr ∧ (∀ j, j < lo → (eAt L j).s.start < x) ∧ (∀ j, hi ≤ j → j < N → x ≤ (eAt L j).s.start)) (fun a b _ => ((intOf b).toNat - (intOf a).toNat))
  case atStart => exact ⟨0, N, rfl, rfl, Nat.zero_le _, Nat.le_refl _, Only.refl _ _, fun j hj => absurd hj (by omega), fun j h1 h2 => absurd h2 (by omega)⟩
  case round =>
    obtain ⟨lo, hi, rfl, rfl, hlh, hin, ho, h1, h2⟩ := hrel
    have hr := HA.out.still ho
    have H1 := Lib.hid h1
    have H2 := Lib.hid h2
    clear h1 h2
    by_cases hlt : lo < hi
    · have d1 : decide ((lo : Int) < hi) = true := decide_eq_true (by omega)
      obtain ⟨g, cp', e1⟩ := hr.form (by rw [← HN.out]; omega)
      injection e1 with e1 _ e3
      subst e1 e3
      obtain ⟨k, hk⟩ : ∃ k, k = (lo + hi) / 2 := ⟨_, rfl⟩
      have hkN : k < N := by omega
      have hk1 : ((lo : Int) + (hi : Int)) / 2 = k := by omega
      obtain ⟨q0, q1, q2, qf⟩ := own_ents hr.row rfl (j := k) (by rw [← HN.out]; exact hkN)
      have CC := Lib.hid (cmp_any wr (eAt L k).s.many (eAt L k).s.start x (.pointer (some ⟨(eAt L k).p, 0, none⟩)) rfl (HST.out k hkN) HX.out)
      have HK := Lib.hid hk
      clear hr
      by_cases hsx : (eAt L k).s.start < x
      · have d2 : decide ((eAt L k).s.start - x < 0) = true := decide_eq_true (by omega)
        have HSX := Lib.hid hsx
        clear hsx hk
        generalize hst : (eAt L k).s.start = st at *
        have HS := Lib.hid hst
        clear hst
        generalize (eAt L k).s.many = mn at *
        go_wp2_with (go_at_call 50; with_reducible refine Grew.use CC.out (fun w1 ho1 => ?_))
        go_roundw
        case rel => exact ⟨k + 1, hi, by go_num, rfl, by have := HK.out; omega, hin, ho.trans ho1, fun j hj => (by
          rcases Nat.lt_or_ge j k with h1 | h1
          · have a1 := HORD.out j k h1 hkN
            rw [HS.out] at a1
            have a2 := HSX.out
            omega
          · rw [show j = k by omega, HS.out]
            exact HSX.out), H2.out⟩
        case measure => simp [intOf]; have := HK.out; omega
      · have d2 : decide ((eAt L k).s.start - x < 0) = false := decide_eq_false (by omega)
        have HSX := Lib.hid hsx
        clear hsx hk
        generalize hst : (eAt L k).s.start = st at *
        have HS := Lib.hid hst
        clear hst
        generalize (eAt L k).s.many = mn at *
        go_wp2_with (go_at_call 50; with_reducible refine Grew.use CC.out (fun w1 ho1 => ?_))
        go_roundw
        case rel => exact ⟨lo, k, rfl, by go_num, by have := HK.out; omega, by omega, ho.trans ho1, H1.out, fun j h1 h2 => (by
          rcases Nat.lt_or_ge k j with h3 | h3
          · have a1 := HORD.out k j h3 h2
            rw [HS.out] at a1
            have a2 := HSX.out
            omega
          · rw [show j = k by omega, HS.out]
            have a2 := HSX.out
            omega)⟩
        case measure => simp [intOf]; have := HK.out; omega
    · obtain rfl : lo = hi := by omega
      have d1 : decide ((lo : Int) < lo) = false := decide_eq_false (by omega)
      have HP : Hid (posTo (spans L) x N = lo) := posTo_eq hin (fun j hj => by rw [sAt_spans]; exact H1.out j hj) (fun j h1 h2 => by rw [sAt_spans]; have := H2.out j h1 h2; omega)
      by_cases hlN : lo < N
      · have d2 : decide ((lo : Int) < N) = true := decide_eq_true (by omega)
        obtain ⟨g, cp', e1⟩ := hr.form (by rw [← HN.out]; omega)
        injection e1 with e1 _ e3
        subst e1 e3
        obtain ⟨q0, q1, q2, qf⟩ := own_ents hr.row rfl (j := lo) (by rw [← HN.out]; exact hlN)
        have CC := Lib.hid (cmp_any wr (eAt L lo).s.many (eAt L lo).s.start x (.pointer (some ⟨(eAt L lo).p, 0, none⟩)) rfl (HST.out lo hlN) HX.out)
        clear hr hlt
        generalize (eAt L lo).s.start = st at *
        generalize (eAt L lo).s.many = mn at *
        obtain ⟨b, hb⟩ : ∃ b, ((st - x) == 0) = b := ⟨_, rfl⟩
        go_wp2_with (go_at_call 50; with_reducible refine Grew.use CC.out (fun w1 ho1 => ?_))
        go_ret2
        exact ⟨ho.trans ho1, b, by rw [HP.out]; rfl⟩
      · have d2 : decide ((lo : Int) < N) = false := decide_eq_false (by omega)
        clear hr hlt
        go_wp2_with fail
        go_ret2
        first | exact ⟨ho, false, by rw [HP.out]; rfl⟩ | exact ⟨ho, .inl (by rw [HP.out]; rfl)⟩
end Go.Proofs.Ytlmjelcnldlagaa

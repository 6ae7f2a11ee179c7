/- The reference's list: Find, span, IsTaken. -/
import Derived.Test.YtlmjelcnldlagaaZMK
set_option linter.unusedVariables false
set_option linter.unusedSimpArgs false
namespace Go.Proofs.Ytlmjelcnldlagaa
open Go.RowKit

theorem isTk_no {c : Cl} {M : List Sp} (hg : GoodL c M) {a : Int} (h : (isTk M a).2 ≠ 0) : isTk M a = (false, 8) := by
  have h8 := (isTk_cases hg a).resolve_left h
  refine Prod.ext ?_ h8
  show (isTk M a).1 = false
  unfold isTk at h ⊢
  cases hj : ofI M a with
  | none => rfl
  | some j =>
    rw [hj] at h
    show ((sAt M j).tkn a).1 = false
    have h' : ((sAt M j).tkn a).2 ≠ 0 := h
    unfold Sp.tkn at h' ⊢
    split at h'
    · exact absurd rfl h'
    · rename_i h5
      rw [if_neg h5]
theorem tkn_idx {s : Sp} {a : Int} (h : (s.tkn a).2 = 0) : (s.idx a).2 = 0 := by
  have h1 : (s.obj a).2 = 0 := by
    unfold Sp.tkn at h
    split at h
    · assumption
    · exact h
  unfold Sp.obj at h1
  split at h1
  · assumption
  · exact h1
theorem idx_in {s : Sp} (hg : s.Good) {a : Int} (h : (s.idx a).2 = 0) : s.start * 256 ≤ a ∧ a < (s.start + s.pages) * 256 := by
  have h2 := hg.n2
  unfold Sp.idx at h
  split at h
  · cases h
  · split at h
    · cases h
    · omega
theorem GoodL.of_first {c : Cl} {M : List Sp} (hg : GoodL c M) {a : Int} {j : Nat} (hj : j < M.length) (h : ((sAt M j).idx a).2 = 0) : ofI M a = some j := by
  refine ofI_some hj h (fun i hi he => ?_)
  have h1 := idx_in (hg.sp j hj).1 h
  have h2 := idx_in (hg.sp i (by omega)).1 he
  have h3 := hg.ord i j hi hj
  omega

set_option maxHeartbeats 2000000 in
theorem qFind_at {w : World} {P : Nat} {A : Value} {c : Cl} {L : List En} (h : QAt w P A c L) (a : Int) : Grew Try.prog 62 #[.pointer (some ⟨P, 0, none⟩), .int .i64 a] w (.tuple #[.int .i64 (findM (spans L) a).1, .int .i64 (findM (spans L) a).2]) := by
  have CM := Lib.hid (qmade_at h)
  obtain ⟨ad, cp, rfl⟩ := h.slice
  have HA := Lib.hid h
  have hn := h.len
  obtain ⟨N, hN⟩ : ∃ N, N = L.length := ⟨_, rfl⟩
  rw [← hN] at hn
  have HN := Lib.hid hN
  clear h hN
  go_enter Try.func62, Try.ntmps62
  go_wp2_with (first | (go_at_call 56; with_reducible refine Still.use CM.out ?_))
  go_loopw [6] (fun t wr => ∃ k : Nat, k ≤ N ∧ t = .int .i64 k ∧ Only [] w wr ∧ ∀ j, j < k → ((eAt L j).s.idx a).2 ≠ 0) (fun t _ => N - (intOf t).toNat)
  case atStart => exact ⟨0, Nat.zero_le _, rfl, Only.refl _ _, fun j hj => absurd hj (by omega)⟩
  case round =>
    obtain ⟨k, hk, rfl, ho, hF⟩ := hrel
    have hr := HA.out.still ho
    have z3 := hr.blk.cell_ 3 rfl
    rw [← HN.out] at z3
    have HF := Lib.hid hF
    clear hF
    by_cases hlt : k < N
    · have d1 : decide ((k : Int) < N) = true := decide_eq_true (by omega)
      have hkL : k < L.length := by rw [← HN.out]; exact hlt
      obtain ⟨g, cp', e1⟩ := hr.form (by omega)
      injection e1 with e1 _ e3
      subst e1 e3
      have q0 := own_ptrs hr.row rfl hkL
      have CI := Lib.hid (rIndex_at (hr.get hkL).1 a)
      by_cases h0 : ((eAt L k).s.idx a).2 = 0
      · have e2 : (((eAt L k).s.idx a).2 == 0) = true := by rw [h0]; rfl
        have E := Lib.hid (show findM (spans L) a = ((eAt L k).s.start * 256 + ((eAt L k).s.idx a).1 * (eAt L k).s.size, 0) by
          unfold findM
          rw [HA.out.goodL.of_first (j := k) (by rw [spans_len]; exact hkL) (by rw [sAt_spans]; exact h0)]
          dsimp only
          rw [sAt_spans])
        obtain ⟨r1, r2, _⟩ := Sp.idx_range (hr.get hkL).1.good a
        have CA := Lib.hid (fun nq => rAt_at ((hr.get hkL).1.drewN nq) ((eAt L k).s.idx a).1 r1 (Int.le_of_lt r2))
        have HQ := Lib.hid (fun nq => (Only.refl [] wr).drewN nq)
        clear hr hkL r1 r2 h0
        generalize (eAt L k).s.start * 256 + ((eAt L k).s.idx a).1 * (eAt L k).s.size = v at *
        generalize ((eAt L k).s.idx a).1 = x1 at *
        generalize ((eAt L k).s.idx a).2 = x2 at *
        generalize (eAt L k).p = pp at *
        go_wp2_with (first | (go_at_call 90; with_reducible refine Quiet.use CI.out (fun nq => ?_)) | (go_at_call 91; with_reducible refine Quiet.use (CA.out _) (fun nq2 => ?_)))
        go_ret2
        exact ⟨by rw [E.out]; rfl, (ho.trans (Only.of_dr (by repeat (first | exact Dr.refl _ | refine Dr.drewN ?_ _ | refine Dr.drew ?_))))⟩
      · have e2 : (((eAt L k).s.idx a).2 == 0) = false := beq_eq_false_iff_ne.2 h0
        have HF2 := Lib.hid (show ∀ j, j < k + 1 → ((eAt L j).s.idx a).2 ≠ 0 from fun j hj => by
          by_cases e : j = k
          · rw [e]; exact h0
          · exact HF.out j (by omega))
        clear hr hkL h0
        generalize ((eAt L k).s.idx a).1 = x1 at *
        generalize ((eAt L k).s.idx a).2 = x2 at *
        generalize (eAt L k).p = pp at *
        go_wp2_with (first | (go_at_call 90; with_reducible refine Quiet.use CI.out (fun nq => ?_)))
        go_roundw
        case rel => exact ⟨k + 1, by omega, by go_num, ho.drewN _, HF2.out⟩
        case measure => simp [intOf]; omega
    · have e : k = N := by omega
      subst e
      have d1 : decide ((k : Int) < k) = false := decide_eq_false (by omega)
      have E := Lib.hid (show findM (spans L) a = (0, 8) by
        unfold findM
        rw [ofI_none (fun j hj => by rw [sAt_spans]; exact HF.out j (by rw [spans_len, ← HN.out] at hj; omega))])
      clear hr
      go_wp2_with fail
      go_ret2
      exact ⟨by rw [E.out]; rfl, ho⟩

set_option maxHeartbeats 2000000 in
theorem qspan_at {w : World} {P : Nat} {A : Value} {c : Cl} {L : List En} (h : QAt w P A c L) (a : Int) : Calls Try.prog 87 #[.pointer (some ⟨P, 0, none⟩), .int .i64 a] w fun e w' => Only [] w w' ∧
    ((∃ j, j < L.length ∧ ofI (spans L) a = some j ∧ ((eAt L j).s.tkn a).2 = 0 ∧ isTk (spans L) a = (eAt L j).s.tkn a ∧ e = .returned (.int .i64 j)) ∨ ((isTk (spans L) a).2 ≠ 0 ∧ e = .returned (.int .i64 (-1)))) := by
  obtain ⟨ad, cp, rfl⟩ := h.slice
  have HA := Lib.hid h
  have hn := h.len
  obtain ⟨N, hN⟩ : ∃ N, N = L.length := ⟨_, rfl⟩
  rw [← hN] at hn
  have HN := Lib.hid hN
  clear h hN
  go_enter Try.func87, Try.ntmps87
  go_wp2_with fail
  go_loopw [5] (fun t wr => ∃ k : Nat, k ≤ N ∧ t = .int .i64 k ∧ Only [] w wr ∧ ∀ j, j < k → ((eAt L j).s.tkn a).2 ≠ 0) (fun t _ => N - (intOf t).toNat)
  case atStart => exact ⟨0, Nat.zero_le _, rfl, Only.refl _ _, fun j hj => absurd hj (by omega)⟩
  case round =>
    obtain ⟨k, hk, rfl, ho, hF⟩ := hrel
    have hr := HA.out.still ho
    have z3 := hr.blk.cell_ 3 rfl
    rw [← HN.out] at z3
    have HF := Lib.hid hF
    clear hF
    by_cases hlt : k < N
    · have d1 : decide ((k : Int) < N) = true := decide_eq_true (by omega)
      have hkL : k < L.length := by rw [← HN.out]; exact hlt
      obtain ⟨g, cp', e1⟩ := hr.form (by omega)
      injection e1 with e1 _ e3
      subst e1 e3
      have q0 := own_ptrs hr.row rfl hkL
      have CI := Lib.hid (rIsTaken_at (hr.get hkL).1 a)
      by_cases h0 : ((eAt L k).s.tkn a).2 = 0
      · have e2 : (((eAt L k).s.tkn a).2 == 0) = true := by rw [h0]; rfl
        have E1 := Lib.hid (HA.out.goodL.of_first (j := k) (a := a) (by rw [spans_len]; exact hkL) (by rw [sAt_spans]; exact tkn_idx h0))
        have E2 := Lib.hid (show isTk (spans L) a = (eAt L k).s.tkn a by rw [isTk_of E1.out, sAt_spans])
        have H0 := Lib.hid h0
        have HK := Lib.hid hkL
        clear hr hkL h0
        obtain ⟨x1, hx1⟩ : ∃ x, x = ((eAt L k).s.tkn a).1 := ⟨_, rfl⟩
        obtain ⟨x2, hx2⟩ : ∃ x, x = ((eAt L k).s.tkn a).2 := ⟨_, rfl⟩
        rw [← hx1, ← hx2] at CI
        rw [← hx2] at e2
        clear hx1 hx2
        generalize (eAt L k).p = pp at *
        go_wp2_with (first | (go_at_call 92; with_reducible refine Quiet.use CI.out (fun nq => ?_)))
        go_ret
        exact ⟨ho.drewN _, .inl ⟨k, HK.out, E1.out, H0.out, E2.out, rfl⟩⟩
      · have e2 : (((eAt L k).s.tkn a).2 == 0) = false := beq_eq_false_iff_ne.2 h0
        have HF2 := Lib.hid (show ∀ j, j < k + 1 → ((eAt L j).s.tkn a).2 ≠ 0 from fun j hj => by
          by_cases e : j = k
          · rw [e]; exact h0
          · exact HF.out j (by omega))
        clear hr hkL h0
        generalize ((eAt L k).s.tkn a).1 = x1 at *
        generalize ((eAt L k).s.tkn a).2 = x2 at *
        generalize (eAt L k).p = pp at *
        go_wp2_with (first | (go_at_call 92; with_reducible refine Quiet.use CI.out (fun nq => ?_)))
        go_roundw
        case rel => exact ⟨k + 1, by omega, by go_num, ho.drewN _, HF2.out⟩
        case measure => simp [intOf]; omega
    · have e : k = N := by omega
      subst e
      have d1 : decide ((k : Int) < k) = false := decide_eq_false (by omega)
      have E := Lib.hid (show (isTk (spans L) a).2 ≠ 0 by
        unfold isTk
        rcases ofI_cases (spans L) a with ⟨h1, _⟩ | ⟨j, h1, h2, h3, _⟩
        · rw [h1]; show (8 : Int) ≠ 0; decide
        · rw [h1]
          show ((sAt (spans L) j).tkn a).2 ≠ 0
          rw [sAt_spans]
          rw [spans_len, ← HN.out] at h2
          exact HF.out j h2)
      clear hr
      go_wp2_with fail
      go_ret
      exact ⟨ho, .inr ⟨E.out, rfl⟩⟩

set_option maxHeartbeats 2000000 in
theorem qIsTaken_at {w : World} {P : Nat} {A : Value} {c : Cl} {L : List En} (h : QAt w P A c L) (a : Int) : Grew Try.prog 63 #[.pointer (some ⟨P, 0, none⟩), .int .i64 a] w (.tuple #[.bool (isTk (spans L) a).1, .int .i64 (isTk (spans L) a).2]) := by
  have CM := Lib.hid (qmade_at h)
  have CS := Lib.hid (qspan_at h a)
  have HA := Lib.hid h
  clear h
  go_enter Try.func63, Try.ntmps63
  go_wp2_with (first | (go_at_call 56; with_reducible refine Still.use CM.out ?_))
  with_reducible refine Calls.mono CS.out ?_
  rintro e w1 ⟨ho1, ⟨j, h1, h2, h3, h4, rfl⟩ | ⟨h1, rfl⟩⟩
  · have hr := HA.out.still ho1
    obtain ⟨g, cp, rfl⟩ := hr.form (by omega)
    have z3 := hr.blk.cell_ 3 rfl
    have q0 := own_ptrs hr.row rfl h1
    have CT := Lib.hid (rIsTaken_at (hr.get h1).1 a)
    have E := Lib.hid h4
    generalize (eAt L j).s.tkn a = x at *
    have hn := hr.len
    obtain ⟨x1, x2⟩ := x
    clear hr h3 h2 h4
    generalize L.length = N at *
    generalize (eAt L j).p = pp at *
    have d0 : decide ((j : Int) < 0) = false := decide_eq_false (by omega)
    go_wp2_with (first | (go_at_call 92; with_reducible refine Quiet.use CT.out (fun nq => ?_)))
    go_ret2
    exact ⟨by rw [E.out]; rfl, ho1.drewN _⟩
  · have E := Lib.hid (isTk_no HA.out.goodL h1)
    clear h1
    go_wp2_with fail
    go_ret2
    exact ⟨by rw [E.out]; rfl, ho1⟩
end Go.Proofs.Ytlmjelcnldlagaa

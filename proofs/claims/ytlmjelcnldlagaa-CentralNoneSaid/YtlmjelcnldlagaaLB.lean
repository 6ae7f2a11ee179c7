/- made, New, of, IsTaken, Find, Taken, Room of the list. -/
import Derived.Test.YtlmjelcnldlagaaLA
set_option linter.unusedVariables false
set_option linter.unusedSimpArgs false
namespace Go.Proofs.Ytlmjelcnldlagaa
open Go.RowKit

theorem Cl.ok.s1 {c : Cl} (h : c.ok) : 8 ≤ c.size ∧ c.size ≤ 512 ∧ 1 ≤ c.pages ∧ c.pages ≤ 4 := ⟨h.1, h.2.1, h.2.2.2.1, h.2.2.2.2.1⟩

theorem lmade_at {w : World} {P : Nat} {A : Value} {c : Cl} {L : List En} (h : ListAt w P A c L) : Still Try.prog 37 #[.pointer (some ⟨P, 0, none⟩)] w (.bool true) := by
  have z0 := h.blk.cell_ 0 rfl
  have d1 : decide (0 < c.size) = true := decide_eq_true (by have := h.one.s1; omega)
  clear h
  go_enter Try.func37, Try.ntmps37
  go_wp2_with fail
  go_ret
  exact ⟨rfl, rfl⟩

/-- Which span has a byte. -/
def ofI (M : List Sp) (a : Int) : Option Nat := M.findIdx? (fun s => (s.idx a).2 == 0)
theorem ofI_some {M : List Sp} {a : Int} {k : Nat} (hk : k < M.length) (h : ((sAt M k).idx a).2 = 0) (hn : ∀ j, j < k → ((sAt M j).idx a).2 ≠ 0) : ofI M a = some k := by
  rw [ofI, List.findIdx?_eq_some_iff_getElem]
  refine ⟨hk, ?_, fun j hj => ?_⟩
  · simpa [sAt, List.getD_eq_getElem?_getD, List.getElem?_eq_getElem hk] using h
  · have := hn j hj
    simpa [sAt, List.getD_eq_getElem?_getD, List.getElem?_eq_getElem (show j < M.length by omega)] using this
theorem ofI_none {M : List Sp} {a : Int} (hn : ∀ j, j < M.length → ((sAt M j).idx a).2 ≠ 0) : ofI M a = none := by
  rw [ofI, List.findIdx?_eq_none_iff]
  intro x hx
  obtain ⟨j, hj, rfl⟩ := List.getElem_of_mem hx
  have := hn j hj
  simpa [sAt, List.getD_eq_getElem?_getD, List.getElem?_eq_getElem hj] using this
theorem ofI_cases (M : List Sp) (a : Int) : (ofI M a = none ∧ ∀ j, j < M.length → ((sAt M j).idx a).2 ≠ 0) ∨ ∃ k, ofI M a = some k ∧ k < M.length ∧ ((sAt M k).idx a).2 = 0 ∧ ∀ j, j < k → ((sAt M j).idx a).2 ≠ 0 := by
  cases h : ofI M a with
  | none =>
    refine .inl ⟨rfl, fun j hj hx => ?_⟩
    rw [ofI, List.findIdx?_eq_none_iff] at h
    have := h M[j] (List.getElem_mem hj)
    simp [sAt, List.getD_eq_getElem?_getD, List.getElem?_eq_getElem hj] at hx
    simp [hx] at this
  | some k =>
    rw [ofI, List.findIdx?_eq_some_iff_getElem] at h
    obtain ⟨h1, h2, h3⟩ := h
    refine .inr ⟨k, rfl, h1, ?_, fun j hj hx => ?_⟩
    · simpa [sAt, List.getD_eq_getElem?_getD, List.getElem?_eq_getElem h1] using h2
    · have := h3 j hj
      simp [sAt, List.getD_eq_getElem?_getD, List.getElem?_eq_getElem (show j < M.length by omega)] at hx
      simp [hx] at this

set_option maxHeartbeats 2000000 in
theorem of_at {w : World} {P : Nat} {A : Value} {c : Cl} {L : List En} (h : ListAt w P A c L) (a : Int) (ha : I64 a) :
    Calls Try.prog 41 #[.pointer (some ⟨P, 0, none⟩), .int .i64 a] w fun e w' => Only [] w w' ∧
      ((∃ j g, ofI (spans L) a = some j ∧ j < L.length ∧ A.ownBlock = some g ∧ e = .returned (.pointer (some ⟨g, j * 3, none⟩))) ∨ (ofI (spans L) a = none ∧ e = .returned (.pointer none))) := by
  obtain ⟨ad, cp, rfl⟩ := h.slice
  have z3 := h.blk.cell_ 3 rfl
  have HA := Lib.hid h
  have hn := h.len
  obtain ⟨N, hN⟩ : ∃ N, N = L.length := ⟨_, rfl⟩
  rw [← hN] at z3 hn
  have HN := Lib.hid hN
  clear h hN
  go_enter Try.func41, Try.ntmps41
  go_wp2_with fail
  go_loopw [13] (fun t wr => ∃ k : Nat, k ≤ N ∧ t = .int .i64 k ∧ Only [] w wr ∧ ∀ j, j < k → ((eAt L j).s.idx a).2 ≠ 0) (fun t _ => N - (intOf t).toNat)
  case atStart => exact ⟨0, Nat.zero_le _, rfl, Only.refl _ _, fun j hj => absurd hj (by omega)⟩
  case round =>
    obtain ⟨k, hk, rfl, ho, hF⟩ := hrel
    have hr := HA.out.still ho
    by_cases hlt : k < N
    · have d1 : decide ((k : Int) < N) = true := decide_eq_true (by omega)
      obtain ⟨g, cp', e1⟩ := hr.form (by rw [← HN.out]; omega)
      injection e1 with e1 _ e3
      subst e1 e3
      have y3 := hr.blk.cell_ 3 rfl
      obtain ⟨q0, q1, q2, qf⟩ := own_ents hr.row rfl (j := k) (by rw [← HN.out]; exact hlt)
      rw [← HN.out] at y3
      have CI := Lib.hid (Index_at (hr.get (by rw [← HN.out]; exact hlt)).1 a ha.1 ha.2)
      have HF := Lib.hid hF
      have HX : Hid (((eAt L k).s.idx a).2 = ((eAt L k).s.idx a).2) := rfl
      generalize h1 : ((eAt L k).s.idx a).1 = i1 at *
      generalize h2 : ((eAt L k).s.idx a).2 = i2 at *
      have H2 := Lib.hid h2
      clear h1 h2 HX hF hr
      by_cases h0 : i2 = 0
      · have d2 : (i2 == 0) = true := by simp [h0]
        have HZ := Lib.hid h0
        clear h0
        go_wp2_with (first | (go_at_call 71; with_reducible refine Quiet.use CI.out (fun nq => ?_)))
        go_ret
        exact ⟨ho.drewN _, .inl ⟨k, g, ofI_some (by rw [spans_len, ← HN.out]; exact hlt) (by rw [sAt_spans, H2.out, HZ.out]) (fun j hj => by rw [sAt_spans]; exact HF.out j hj), by rw [← HN.out]; exact hlt, rfl, rfl⟩⟩
      · have d2 : (i2 == 0) = false := by simp [h0]
        have HZ := Lib.hid h0
        clear h0
        go_wp2_with (first | (go_at_call 71; with_reducible refine Quiet.use CI.out (fun nq => ?_)))
        go_roundw
        case rel => exact ⟨k + 1, by omega, by go_num, ho.drewN _, fun j hj => by
          rcases Nat.lt_or_ge j k with h1 | h1
          · exact HF.out j h1
          · rw [show j = k by omega, H2.out]; exact HZ.out⟩
        case measure => simp [intOf]; omega
    · have d1 : decide ((k : Int) < N) = false := decide_eq_false (by omega)
      have HF := Lib.hid hF
      clear hF hr
      go_wp2_with fail
      go_ret
      exact ⟨ho, .inr ⟨ofI_none (fun j hj => by rw [sAt_spans]; exact HF.out j (by rw [spans_len, ← HN.out] at hj; omega)), rfl⟩⟩

/-- IsTaken. -/
def isTk (M : List Sp) (a : Int) : Bool × Int := match ofI M a with | none => (false, 8) | some j => (sAt M j).tkn a
set_option maxHeartbeats 2000000 in
theorem lIsTaken_at {w : World} {P : Nat} {A : Value} {c : Cl} {L : List En} (h : ListAt w P A c L) (a : Int) (ha : I64 a) :
    Grew Try.prog 39 #[.pointer (some ⟨P, 0, none⟩), .int .i64 a] w (.tuple #[.bool (isTk (spans L) a).1, .int .i64 (isTk (spans L) a).2]) := by
  have HA := Lib.hid h
  have CM := Lib.hid (lmade_at h)
  have CO := Lib.hid (of_at h a ha)
  clear h
  go_enter Try.func39, Try.ntmps39
  go_wp2_with (first | (go_at_call 37; with_reducible refine Still.use CM.out ?_))
  refine CO.out.mono ?_
  rintro e w1 ⟨ho1, ⟨j, g, h1, h2, h3, rfl⟩ | ⟨h1, rfl⟩⟩
  · have hr := HA.out.still ho1
    obtain ⟨g', cp', rfl⟩ := hr.form (by omega)
    obtain rfl : g' = g := by injection h3
    obtain ⟨q0, q1, q2, qf⟩ := own_ents hr.row rfl h2
    have CT := Lib.hid (IsTaken_at (hr.get h2).1 a ha.1 ha.2)
    have E := Lib.hid (show isTk (spans L) a = (eAt L j).s.tkn a by unfold isTk; rw [h1]; exact congrArg (fun s => Sp.tkn s a) (sAt_spans L j))
    generalize (eAt L j).s.tkn a = x at *
    obtain ⟨x1, x2⟩ := x
    clear hr HA h1
    go_wp2_with (first | (go_at_call 69; with_reducible refine Quiet.use CT.out (fun nq => ?_)))
    go_ret2
    exact ⟨by rw [E.out]; rfl, ho1.drewN _⟩
  · have E := Lib.hid (show isTk (spans L) a = (false, 8) by unfold isTk; rw [h1])
    clear HA h1
    go_wp2_with fail
    go_ret2
    exact ⟨by rw [E.out]; rfl, ho1⟩

/-- Find. -/
def findM (M : List Sp) (a : Int) : Int × Int := match ofI M a with | none => (0, 8) | some j => ((sAt M j).start * 256 + ((sAt M j).idx a).1 * (sAt M j).size, 0)
set_option maxHeartbeats 2000000 in
theorem lFind_at {w : World} {P : Nat} {A : Value} {c : Cl} {L : List En} (h : ListAt w P A c L) (a : Int) (ha : I64 a) :
    Grew Try.prog 52 #[.pointer (some ⟨P, 0, none⟩), .int .i64 a] w (.tuple #[.int .i64 (findM (spans L) a).1, .int .i64 (findM (spans L) a).2]) := by
  have HA := Lib.hid h
  have CM := Lib.hid (lmade_at h)
  have CO := Lib.hid (of_at h a ha)
  clear h
  go_enter Try.func52, Try.ntmps52
  go_wp2_with (first | (go_at_call 37; with_reducible refine Still.use CM.out ?_))
  refine CO.out.mono ?_
  rintro e w1 ⟨ho1, ⟨j, g, h1, h2, h3, rfl⟩ | ⟨h1, rfl⟩⟩
  · have hr := HA.out.still ho1
    obtain ⟨g', cp', rfl⟩ := hr.form (by omega)
    obtain rfl : g' = g := by injection h3
    obtain ⟨q0, q1, q2, qf⟩ := own_ents hr.row rfl h2
    have z0 := hr.blk.cell_ 0 rfl
    obtain ⟨hs, hof⟩ := hr.get h2
    have CT := Lib.hid (Index_at hs a ha.1 ha.2)
    have E := Lib.hid (show findM (spans L) a = ((eAt L j).s.start * 256 + ((eAt L j).s.idx a).1 * c.size, 0) by unfold findM; rw [h1]; dsimp only; rw [sAt_spans, hof.1])
    obtain ⟨r1, r2, _⟩ := Sp.idx_range hs.good a
    obtain ⟨o1, o2⟩ := hs.good.off r1 (Int.le_of_lt r2)
    have b1 := hs.good.b1
    have b2 := hs.good.b2
    have b3 := hs.good.p1
    have b4 := hs.good.p2
    rw [hof.1] at o1 o2
    clear r2
    generalize ((eAt L j).s.idx a).1 = x1 at *
    generalize ((eAt L j).s.idx a).2 = x2 at *
    generalize (eAt L j).s.start = st at *
    generalize c.size = sz at *
    clear hr HA h1 hs hof
    go_wp2_with (first | (go_at_call 71; with_reducible refine Quiet.use CT.out (fun nq => ?_)))
    go_quiet (fail)
    go_wp2
    go_ret2
    exact ⟨by rw [E.out]; rfl, (ho1.drewN _).drewN _⟩
  · have E := Lib.hid (show findM (spans L) a = (0, 8) by unfold findM; rw [h1])
    clear HA h1
    go_wp2_with fail
    go_ret2
    exact ⟨by rw [E.out]; rfl, ho1⟩

/-- The taken objects, and the free ones, of the first k spans. -/
def manyTo (M : List Sp) : Nat → Int
  | 0 => 0
  | k + 1 => manyTo M k + (sAt M k).many
def roomTo (M : List Sp) : Nat → Int
  | 0 => 0
  | k + 1 => roomTo M k + ((sAt M k).st.length - (sAt M k).many)
abbrev manyOf (M : List Sp) : Int := manyTo M M.length
abbrev roomOf (M : List Sp) : Int := roomTo M M.length

set_option maxHeartbeats 2000000 in
theorem lTaken_at {w : World} {P : Nat} {A : Value} {c : Cl} {L : List En} (h : ListAt w P A c L) : Grew Try.prog 27 #[.pointer (some ⟨P, 0, none⟩)] w (.int .i64 (manyOf (spans L))) := by
  have CM := Lib.hid (lmade_at h)
  obtain ⟨ad, cp, rfl⟩ := h.slice
  have z3 := h.blk.cell_ 3 rfl
  have HA := Lib.hid h
  have hn := h.len
  obtain ⟨N, hN⟩ : ∃ N, N = L.length := ⟨_, rfl⟩
  have HG : Hid (manyOf (spans L) = manyTo (spans L) N) := by rw [hN, ← spans_len]; rfl
  rw [← hN] at z3 hn
  have HN := Lib.hid hN
  clear h hN
  go_enter Try.func27, Try.ntmps27
  go_wp2_with (first | (go_at_call 37; with_reducible refine Still.use CM.out ?_))
  go_loopw [3, 14] (fun u t wr => ∃ k : Nat, ∃ x : Int, k ≤ N ∧ u = .int .i64 x ∧ t = .int .i64 k ∧ Only [] w wr ∧ x = manyTo (spans L) k ∧ 0 ≤ x ∧ x ≤ 128 * k) (fun _ t _ => N - (intOf t).toNat)
  case atStart => exact ⟨0, 0, Nat.zero_le _, rfl, rfl, Only.refl _ _, rfl, by omega, by omega⟩
  case round =>
    obtain ⟨k, x, hk, rfl, rfl, ho, hx, h1, h2⟩ := hrel
    have hr := HA.out.still ho
    have HX := Lib.hid hx
    clear hx
    by_cases hlt : k < N
    · have d1 : decide ((k : Int) < N) = true := decide_eq_true (by omega)
      obtain ⟨g, cp', e1⟩ := hr.form (by rw [← HN.out]; omega)
      injection e1 with e1 _ e3
      subst e1 e3
      obtain ⟨q0, q1, q2, qf⟩ := own_ents hr.row rfl (j := k) (by rw [← HN.out]; exact hlt)
      obtain ⟨m1, m2⟩ := (hr.get (show k < L.length by rw [← HN.out]; exact hlt)).1.good.many
      have m3 := (hr.get (show k < L.length by rw [← HN.out]; exact hlt)).1.good.len
      have HM : Hid (manyTo (spans L) (k + 1) = manyTo (spans L) k + (eAt L k).s.many) := by show _ = _; rw [manyTo, sAt_spans]
      generalize (eAt L k).s.st.length = ln at *
      generalize (eAt L k).s.many = mn at *
      generalize (eAt L k).s.start = st at *
      clear hr
      go_wp2_with fail
      go_roundw
      case rel => exact ⟨k + 1, x + mn, by omega, rfl, by go_num, ho.alloc _, by rw [HM.out, HX.out], by omega, by omega⟩
      case measure => simp [intOf]; omega
    · have e : k = N := by omega
      subst e
      have d1 : decide ((k : Int) < k) = false := decide_eq_false (by omega)
      clear hr
      go_wp2_with fail
      go_ret
      exact ⟨by rw [HG.out, HX.out]; rfl, ho⟩
set_option maxHeartbeats 2000000 in
theorem lRoom_at {w : World} {P : Nat} {A : Value} {c : Cl} {L : List En} (h : ListAt w P A c L) : Grew Try.prog 22 #[.pointer (some ⟨P, 0, none⟩)] w (.int .i64 (roomOf (spans L))) := by
  have CM := Lib.hid (lmade_at h)
  obtain ⟨ad, cp, rfl⟩ := h.slice
  have z3 := h.blk.cell_ 3 rfl
  have HA := Lib.hid h
  have hn := h.len
  obtain ⟨N, hN⟩ : ∃ N, N = L.length := ⟨_, rfl⟩
  have HG : Hid (roomOf (spans L) = roomTo (spans L) N) := by rw [hN, ← spans_len]; rfl
  rw [← hN] at z3 hn
  have HN := Lib.hid hN
  clear h hN
  go_enter Try.func22, Try.ntmps22
  go_wp2_with (first | (go_at_call 37; with_reducible refine Still.use CM.out ?_))
  go_loopw [3, 14] (fun u t wr => ∃ k : Nat, ∃ x : Int, k ≤ N ∧ u = .int .i64 x ∧ t = .int .i64 k ∧ Only [] w wr ∧ x = roomTo (spans L) k ∧ 0 ≤ x ∧ x ≤ 128 * k) (fun _ t _ => N - (intOf t).toNat)
  case atStart => exact ⟨0, 0, Nat.zero_le _, rfl, rfl, Only.refl _ _, rfl, by omega, by omega⟩
  case round =>
    obtain ⟨k, x, hk, rfl, rfl, ho, hx, h1, h2⟩ := hrel
    have hr := HA.out.still ho
    have HX := Lib.hid hx
    clear hx
    by_cases hlt : k < N
    · have d1 : decide ((k : Int) < N) = true := decide_eq_true (by omega)
      obtain ⟨g, cp', e1⟩ := hr.form (by rw [← HN.out]; omega)
      injection e1 with e1 _ e3
      subst e1 e3
      obtain ⟨q0, q1, q2, qf⟩ := own_ents hr.row rfl (j := k) (by rw [← HN.out]; exact hlt)
      obtain ⟨m1, m2⟩ := (hr.get (show k < L.length by rw [← HN.out]; exact hlt)).1.good.many
      have m3 := (hr.get (show k < L.length by rw [← HN.out]; exact hlt)).1.good.len
      have HM : Hid (roomTo (spans L) (k + 1) = roomTo (spans L) k + ((eAt L k).s.st.length - (eAt L k).s.many)) := by show _ = _; rw [roomTo, sAt_spans]
      have CO := fun n => (Objects_at (((hr.get (show k < L.length by rw [← HN.out]; exact hlt)).1.alloc (.cells #[.int .i64 (eAt L k).s.many, .int .i64 (eAt L k).s.start, .pointer (some ⟨(eAt L k).p, 0, none⟩)] 75)).drewN n)).quiet
      generalize (eAt L k).s.st.length = ln at *
      generalize (eAt L k).s.many = mn at *
      generalize (eAt L k).s.start = st at *
      clear hr
      have CO' := Lib.hid CO
      clear CO
      go_wp2_with fail
      go_quiet ((go_at_call 47; exact (CO'.out _).q))
      go_wp2
      go_roundw
      case rel => exact ⟨k + 1, x + (ln - mn), by omega, rfl, by go_num, (ho.alloc _).drewN _, by rw [HM.out, HX.out], by omega, by omega⟩
      case measure => simp [intOf]; omega
    · have e : k = N := by omega
      subst e
      have d1 : decide ((k : Int) < k) = false := decide_eq_false (by omega)
      clear hr
      go_wp2_with fail
      go_ret
      exact ⟨by rw [HG.out, HX.out]; rfl, ho⟩
end Go.Proofs.Ytlmjelcnldlagaa

/- The reference's space: Map, lose, Unmap, Release, can, count, Dirty, put, Read, Write. -/
import Derived.Test.YtmalmkccgjeboaaDoorWF
set_option linter.unusedVariables false
set_option linter.unusedSimpArgs false
namespace Go.Proofs.YtmalmkccgjeboaaDoor
open Go.RowKit

theorem has_f (f : Nat → Int) (n : Nat) : anyTo (fun v => (v != 0) != false) f n = anyTo (fun v => v != 0) f n := by
  have : (fun v : Int => (v != 0) != false) = (fun v => v != 0) := by funext v; simp
  rw [this]
theorem has_t (f : Nat → Int) (n : Nat) : anyTo (fun v => (v != 0) != true) f n = anyTo (fun v => v == 0) f n := by
  have : (fun v : Int => (v != 0) != true) = (fun v => v == 0) := by
    funext v
    by_cases e : v = 0
    · rw [e]; rfl
    · have h1 : (v != 0) = true := bne_iff_ne.2 e
      have h2 : (v == 0) = false := beq_eq_false_iff_ne.2 e
      rw [h1, h2]; rfl
  rw [this]

section
variable {w : World} {p q1 q2 c1 c2 : Nat} {m : SpM}

set_option maxHeartbeats 1600000 in
theorem xMap (h : RefAt w p q1 q2 c1 c2 m) (a b : Int) (ha : I64 a) (hb : I64 b) :
    Calls Tryd.prog 51 #[.pointer (some ⟨p, 0, none⟩), .int .i64 a, .int .i64 b] w fun e w' => e = .returned (.int .i64 (m.mapE a b)) ∧ Only [p, q1, q2] w w' ∧ RefAt w' p q1 q2 c1 c2 (m.mapM a b) := by
  have CM := Lib.hid (xmade h)
  have HH := Lib.hid h
  by_cases hin : m.inR a b
  · have CI := Lib.hid (xin_yes h hin)
    have CH := xhas h hin false
    rw [has_f] at CH
    cases hq : anyTo (fun v => v != 0) (fun k => m.st (a + k)) b.toNat
    · have e1 : m.mapE a b = 0 := by unfold SpM.mapE; rw [if_neg (by simpa using hin), if_neg (by simp [hq])]
      have e2 : m.mapM a b = m.setR a b 1 := by unfold SpM.mapM; rw [if_pos e1]
      rw [hq] at CH
      have HC := Lib.hid CH
      have E1 := Lib.hid e1
      have E2 := Lib.hid e2
      have CS := Lib.hid (xset h hin 1)
      clear hin hq CH e1 e2 h
      go_enter Tryd.func51, Tryd.ntmps51
      go_wp2_with (first | (go_at_call 50; with_reducible refine Still.use CM.out ?_) | (go_at_call 69; with_reducible refine Still.use CI.out ?_) | (go_at_call 70; with_reducible refine Still.use HC.out ?_))
      refine CS.out.mono ?_
      rintro _ w1 ⟨rfl, ho, hr⟩
      go_wp2_with fail
      go_ret
      exact ⟨by rw [E1.out]; rfl, ho.mono (by simp), by rw [E2.out]; exact hr⟩
    · have e1 : m.mapE a b = 5 := by unfold SpM.mapE; rw [if_neg (by simpa using hin), if_pos hq]
      have e2 : m.mapM a b = m := by unfold SpM.mapM; rw [if_neg (by rw [e1]; decide)]
      rw [hq] at CH
      have HC := Lib.hid CH
      have E1 := Lib.hid e1
      have E2 := Lib.hid e2
      clear hin hq CH e1 e2 h
      go_enter Tryd.func51, Tryd.ntmps51
      go_wp2_with (first | (go_at_call 50; with_reducible refine Still.use CM.out ?_) | (go_at_call 69; with_reducible refine Still.use CI.out ?_) | (go_at_call 70; with_reducible refine Still.use HC.out ?_))
      go_ret
      exact ⟨by rw [E1.out]; rfl, Only.refl _ _, by rw [E2.out]; exact HH.out⟩
  · have CI := Lib.hid (xin_no h hin ha hb)
    have e1 : m.mapE a b = 1 := by unfold SpM.mapE; rw [if_pos (by simpa using hin)]
    have e2 : m.mapM a b = m := by unfold SpM.mapM; rw [if_neg (by rw [e1]; decide)]
    have E1 := Lib.hid e1
    have E2 := Lib.hid e2
    clear hin e1 e2 h
    go_enter Tryd.func51, Tryd.ntmps51
    go_wp2_with (first | (go_at_call 50; with_reducible refine Still.use CM.out ?_) | (go_at_call 69; with_reducible refine Still.use CI.out ?_))
    go_ret
    exact ⟨by rw [E1.out]; rfl, Only.refl _ _, by rw [E2.out]; exact HH.out⟩

set_option maxHeartbeats 1600000 in
theorem xlose (h : RefAt w p q1 q2 c1 c2 m) (a b : Int) (ha : I64 a) (hb : I64 b) (v : Int) :
    Calls Tryd.prog 72 #[.pointer (some ⟨p, 0, none⟩), .int .i64 a, .int .i64 b, .int .i64 v] w fun e w' => e = .returned (.int .i64 (m.leaveE a b)) ∧ Only [p, q1, q2] w w' ∧ RefAt w' p q1 q2 c1 c2 (m.leaveM a b v) := by
  have CM := Lib.hid (xmade h)
  have HH := Lib.hid h
  by_cases hin : m.inR a b
  · have CI := Lib.hid (xin_yes h hin)
    have CH := xhas h hin true
    rw [has_t] at CH
    cases hq : anyTo (fun v => v == 0) (fun k => m.st (a + k)) b.toNat
    · have e1 : m.leaveE a b = 0 := by unfold SpM.leaveE; rw [if_neg (by simpa using hin), if_neg (by simp [hq])]
      have e2 : m.leaveM a b v = m.setR a b v := by unfold SpM.leaveM; rw [if_pos e1]
      rw [hq] at CH
      have HC := Lib.hid CH
      have E1 := Lib.hid e1
      have E2 := Lib.hid e2
      have CS := Lib.hid (xset h hin v)
      clear hin hq CH e1 e2 h
      go_enter Tryd.func72, Tryd.ntmps72
      go_wp2_with (first | (go_at_call 50; with_reducible refine Still.use CM.out ?_) | (go_at_call 69; with_reducible refine Still.use CI.out ?_) | (go_at_call 70; with_reducible refine Still.use HC.out ?_))
      refine CS.out.mono ?_
      rintro _ w1 ⟨rfl, ho, hr⟩
      go_wp2_with fail
      go_ret
      exact ⟨by rw [E1.out]; rfl, ho.mono (by simp), by rw [E2.out]; exact hr⟩
    · have e1 : m.leaveE a b = 7 := by unfold SpM.leaveE; rw [if_neg (by simpa using hin), if_pos hq]
      have e2 : m.leaveM a b v = m := by unfold SpM.leaveM; rw [if_neg (by rw [e1]; decide)]
      rw [hq] at CH
      have HC := Lib.hid CH
      have E1 := Lib.hid e1
      have E2 := Lib.hid e2
      clear hin hq CH e1 e2 h
      go_enter Tryd.func72, Tryd.ntmps72
      go_wp2_with (first | (go_at_call 50; with_reducible refine Still.use CM.out ?_) | (go_at_call 69; with_reducible refine Still.use CI.out ?_) | (go_at_call 70; with_reducible refine Still.use HC.out ?_))
      go_ret
      exact ⟨by rw [E1.out]; rfl, Only.refl _ _, by rw [E2.out]; exact HH.out⟩
  · have CI := Lib.hid (xin_no h hin ha hb)
    have e1 : m.leaveE a b = 1 := by unfold SpM.leaveE; rw [if_pos (by simpa using hin)]
    have e2 : m.leaveM a b v = m := by unfold SpM.leaveM; rw [if_neg (by rw [e1]; decide)]
    have E1 := Lib.hid e1
    have E2 := Lib.hid e2
    clear hin e1 e2 h
    go_enter Tryd.func72, Tryd.ntmps72
    go_wp2_with (first | (go_at_call 50; with_reducible refine Still.use CM.out ?_) | (go_at_call 69; with_reducible refine Still.use CI.out ?_))
    go_ret
    exact ⟨by rw [E1.out]; rfl, Only.refl _ _, by rw [E2.out]; exact HH.out⟩

theorem xUnmap (h : RefAt w p q1 q2 c1 c2 m) (a b : Int) (ha : I64 a) (hb : I64 b) :
    Calls Tryd.prog 52 #[.pointer (some ⟨p, 0, none⟩), .int .i64 a, .int .i64 b] w fun e w' => e = .returned (.int .i64 (m.leaveE a b)) ∧ Only [p, q1, q2] w w' ∧ RefAt w' p q1 q2 c1 c2 (m.leaveM a b 0) := by
  have CL := Lib.hid (xlose h a b ha hb 0)
  clear h
  go_enter Tryd.func52, Tryd.ntmps52
  go_wp2_with fail
  refine CL.out.mono ?_
  rintro _ w1 ⟨rfl, ho, hr⟩
  go_wp2_with fail
  go_ret
  exact ⟨rfl, ho, hr⟩
theorem xRelease (h : RefAt w p q1 q2 c1 c2 m) (a b : Int) (ha : I64 a) (hb : I64 b) :
    Calls Tryd.prog 53 #[.pointer (some ⟨p, 0, none⟩), .int .i64 a, .int .i64 b] w fun e w' => e = .returned (.int .i64 (m.leaveE a b)) ∧ Only [p, q1, q2] w w' ∧ RefAt w' p q1 q2 c1 c2 (m.leaveM a b 1) := by
  have CL := Lib.hid (xlose h a b ha hb 1)
  clear h
  go_enter Tryd.func53, Tryd.ntmps53
  go_wp2_with fail
  refine CL.out.mono ?_
  rintro _ w1 ⟨rfl, ho, hr⟩
  go_wp2_with fail
  go_ret
  exact ⟨rfl, ho, hr⟩

set_option maxHeartbeats 1600000 in
theorem xcount (h : RefAt w p q1 q2 c1 c2 m) (v : Int) : Still Tryd.prog 75 #[.pointer (some ⟨p, 0, none⟩), .int .i64 v] w (.int .i64 (cntTo m.st v m.n)) := by
  have CM := Lib.hid (xmade h)
  have z0 := h.blk.cell_ 0 rfl
  have n2 := h.n2
  have hk1 := h.k1
  have HS := Lib.hid h.sts
  clear h
  generalize hst : m.st = st at *
  generalize m.n = n at *
  clear hst
  go_enter Tryd.func75, Tryd.ntmps75
  go_wp2_with (first | (go_at_call 50; with_reducible refine Still.use CM.out ?_))
  go_loop [5, 6] (fun c x => ∃ k : Nat, k ≤ n ∧ x = .int .i64 k ∧ c = .int .i64 (cntTo st v k)) (fun _ x => n - (intOf x).toNat)
  case atStart => exact ⟨0, Nat.zero_le _, rfl, rfl⟩
  case round =>
    obtain ⟨k, hk, rfl, rfl⟩ := hrel
    by_cases hlt : k < n
    · have d1 : decide ((k : Int) < n) = true := decide_eq_true (by omega)
      have y0 := HS.out.cell (k := k) hlt
      have hle := cntTo_le st v k
      have HM : Hid (cntTo st v (k + 1) = cntTo st v k + if st k = v then 1 else 0) := rfl
      by_cases e : st k = v
      · have HM2 := Lib.hid (HM.out.trans (by rw [if_pos e]))
        have d2 : (st k == v) = true := beq_iff_eq.2 e
        clear HM e
        generalize cntTo st v k = c at *
        generalize st k = x at *
        go_wp2_with fail
        go_round
        case rel => exact ⟨k + 1, by omega, by go_num, by rw [HM2.out]; go_num⟩
        case measure => simp [intOf]; omega
      · have HM2 := Lib.hid (HM.out.trans (by rw [if_neg e]))
        have d2 : (st k == v) = false := beq_eq_false_iff_ne.2 e
        clear HM e
        generalize cntTo st v k = c at *
        generalize st k = x at *
        go_wp2_with fail
        go_round
        case rel => exact ⟨k + 1, by omega, by go_num, by rw [HM2.out]; rfl⟩
        case measure => simp [intOf]; omega
    · have e : k = n := by omega
      subst e
      have d1 : decide ((k : Int) < k) = false := decide_eq_false (by omega)
      go_wp2_with fail
      go_ret
      exact ⟨rfl, rfl⟩

theorem xDirty (h : RefAt w p q1 q2 c1 c2 m) : Still Tryd.prog 62 #[.pointer (some ⟨p, 0, none⟩)] w (.int .i64 m.dirty) := by
  have CC := Lib.hid (xcount h 2)
  clear h
  go_enter Tryd.func62, Tryd.ntmps62
  go_wp2_with (first | (go_at_call 75; with_reducible refine Still.use CC.out ?_))
  go_ret
  exact ⟨rfl, rfl⟩
theorem xMapped (h : RefAt w p q1 q2 c1 c2 m) : Still Tryd.prog 61 #[.pointer (some ⟨p, 0, none⟩)] w (.int .i64 ((cntTo m.st 1 m.n : Int) + cntTo m.st 2 m.n)) := by
  have C1 := Lib.hid (xcount h 1)
  have C2 := Lib.hid (xcount h 2)
  have n2 := h.n2
  have b1 := cntTo_le m.st 1 m.n
  have b2 := cntTo_le m.st 2 m.n
  clear h
  generalize cntTo m.st 1 m.n = x1 at *
  generalize cntTo m.st 2 m.n = x2 at *
  go_enter Tryd.func61, Tryd.ntmps61
  go_wp2_with (first | (go_at_call 75; with_reducible refine Still.use C1.out ?_) | (go_at_call 75; with_reducible refine Still.use C2.out ?_))
  go_ret
  exact ⟨rfl, rfl⟩
theorem xPages (h : RefAt w p q1 q2 c1 c2 m) : Still Tryd.prog 60 #[.pointer (some ⟨p, 0, none⟩)] w (.int .i64 m.n) := by
  have CM := Lib.hid (xmade h)
  have z0 := h.blk.cell_ 0 rfl
  clear h
  generalize m.n = n at *
  go_enter Tryd.func60, Tryd.ntmps60
  go_wp2_with (first | (go_at_call 50; with_reducible refine Still.use CM.out ?_))
  go_ret
  exact ⟨rfl, rfl⟩
theorem xPeak (h : RefAt w p q1 q2 c1 c2 m) : Still Tryd.prog 63 #[.pointer (some ⟨p, 0, none⟩)] w (.int .i64 m.pk) := by
  have CM := Lib.hid (xmade h)
  have z2 := h.blk.cell_ 2 rfl
  clear h
  generalize m.pk = n at *
  go_enter Tryd.func63, Tryd.ntmps63
  go_wp2_with (first | (go_at_call 50; with_reducible refine Still.use CM.out ?_))
  go_ret
  exact ⟨rfl, rfl⟩
set_option maxHeartbeats 1600000 in
theorem xState (h : RefAt w p q1 q2 c1 c2 m) (i : Int) (hi : I64 i) : Still Tryd.prog 66 #[.pointer (some ⟨p, 0, none⟩), .int .i64 i] w (.int .i64 (m.stateOf i)) := by
  have CM := Lib.hid (xmade h)
  have z0 := h.blk.cell_ 0 rfl
  have n2 := h.n2
  have hk1 := h.k1
  by_cases h1 : i < 0
  · have E := Lib.hid (show m.stateOf i = -1 from if_pos (.inl h1))
    have d1 := decide_eq_true h1
    clear h h1
    generalize m.n = n at *
    go_enter Tryd.func66, Tryd.ntmps66
    go_wp2_with (first | (go_at_call 50; with_reducible refine Still.use CM.out ?_))
    go_ret
    exact ⟨by rw [E.out]; rfl, rfl⟩
  · have d1 := decide_eq_false h1
    by_cases h2 : (m.n : Int) ≤ i
    · have E := Lib.hid (show m.stateOf i = -1 from if_pos (.inr h2))
      have d2 := decide_eq_true h2
      clear h h1 h2
      generalize m.n = n at *
      go_enter Tryd.func66, Tryd.ntmps66
      go_wp2_with (first | (go_at_call 50; with_reducible refine Still.use CM.out ?_))
      go_ret
      exact ⟨by rw [E.out]; rfl, rfl⟩
    · have E := Lib.hid (show m.stateOf i = m.st i from if_neg (by omega))
      have d2 := decide_eq_false h2
      obtain ⟨k, rfl⟩ : ∃ k : Nat, i = k := ⟨i.toNat, by omega⟩
      have y0 := h.sts.cell (k := k) (by omega)
      clear h h1
      generalize m.st k = x at *
      generalize m.n = n at *
      go_enter Tryd.func66, Tryd.ntmps66
      go_wp2_with (first | (go_at_call 50; with_reducible refine Still.use CM.out ?_))
      go_ret
      exact ⟨by rw [E.out]; rfl, rfl⟩
end
end Go.Proofs.YtmalmkccgjeboaaDoor

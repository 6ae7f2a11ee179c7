/- alike, and the walks of SpaceRefuses and SpaceClones. -/
import Derived.Test.YtmalmkccgjeboaaDoorVS
set_option linter.unusedVariables false
set_option linter.unusedSimpArgs false
namespace Go.Proofs.YtmalmkccgjeboaaDoor
open Go.RowKit

set_option maxRecDepth 100000 in
set_option maxHeartbeats 2000000 in
/-- Two spaces with one model are alike. -/
theorem alike_any {w : World} (hE : Env w) {p q : Nat} {l l' : List Nat} {m : SpM} (h : SpaceAt w p l m) (h' : SpaceAt w q l' m) : Grew Tryd.prog 30 #[.pointer (some ⟨p, 0, none⟩), .pointer (some ⟨q, 0, none⟩)] w (.bool true) := by
  have HE := Lib.hid hE
  have HA := Lib.hid h
  have HB := Lib.hid h'
  have C1 := Lib.hid (Pages_any h)
  have C2 := Lib.hid (Pages_any h')
  have C3 := Lib.hid (Mapped_any h)
  have C4 := Lib.hid (Mapped_any h')
  have C5 := Lib.hid (Dirty_any h)
  have C6 := Lib.hid (Dirty_any h')
  have C7 := Lib.hid (Peak_any h)
  have C8 := Lib.hid (Peak_any h')
  have hn2 := h.good.n2
  clear h h' hE
  generalize mapTo m.st m.n = q3 at *
  generalize m.dirty = q2 at *
  generalize m.pk = q1 at *
  have HN : Hid (∃ N, N = m.n) := ⟨_, rfl⟩
  obtain ⟨N, hN⟩ := HN.out
  rw [← hN] at C1 C2 hn2
  have HNN := Lib.hid hN
  clear hN HN
  go_enter Tryd.func30, Tryd.ntmps30
  go_wp2_with (first | (go_at_call 21; with_reducible refine Still.use C1.out ?_) | (go_at_call 21; with_reducible refine Still.use C2.out ?_) | (go_at_call 20; with_reducible refine Still.use C3.out ?_) | (go_at_call 20; with_reducible refine Still.use C4.out ?_) | (go_at_call 19; with_reducible refine Still.use C5.out ?_) | (go_at_call 19; with_reducible refine Still.use C6.out ?_) | (go_at_call 18; with_reducible refine Still.use C7.out ?_) | (go_at_call 18; with_reducible refine Still.use C8.out ?_))
  go_loopw [5] (fun t wr => ∃ k : Nat, k ≤ N ∧ t = .int .i64 k ∧ Only [] w wr) (fun t _ => N - (intOf t).toNat)
  case atStart => exact ⟨0, Nat.zero_le _, rfl, Only.refl _ _⟩
  case round =>
    obtain ⟨k, hk, rfl, ho⟩ := hrel
    have CP := Lib.hid (Pages_any (HA.out.still ho))
    rw [← HNN.out] at CP
    by_cases hlt : k < N
    · have d1 : decide ((k : Int) < N) = true := decide_eq_true (by omega)
      have CS := Lib.hid (State_any (HE.out.only ho (by simp)) (HA.out.still ho) k (by unfold I64; omega))
      have CS' := Lib.hid (fun W (h1 : Only [] wr W) => State_any (HE.out.only (ho.trans h1) (by simp)) (HB.out.still (ho.trans h1)) k (by unfold I64; omega))
      generalize m.stateOf k = s0 at *
      go_wp2_with (first | (go_at_call 21; with_reducible refine Still.use CP.out ?_) | (go_at_call 24; with_reducible refine Grew.use CS.out (fun w1 ho1 => ?_)) | (go_at_call 24; with_reducible refine Grew.use (CS'.out _ ho1) (fun w2 ho2 => ?_)))
      have ho12 := ho.trans (ho1.trans ho2)
      clear CS CS' CP
      go_loopw [6] (fun t wr => ∃ i : Nat, i ≤ 32 ∧ t = .int .i64 (8 * (i : Int)) ∧ Only [] w wr) (fun t _ => 300 - (intOf t).toNat)
      case atStart => exact ⟨0, by omega, rfl, ho12⟩
      case round =>
        obtain ⟨i, hi, rfl, hoi⟩ := hrel
        by_cases hlt2 : i < 32
        · have d2 : decide (8 * (i : Int) < 256) = true := decide_eq_true (by omega)
          have CR := Lib.hid (Read_any (HE.out.only hoi (by simp)) (HA.out.still hoi) ((k : Int) * 256 + 8 * (i : Int)) (by unfold I64; omega))
          have CR' := Lib.hid (fun W (h1 : Only [] wr W) => Read_any (HE.out.only (hoi.trans h1) (by simp)) (HB.out.still (hoi.trans h1)) ((k : Int) * 256 + 8 * (i : Int)) (by unfold I64; omega))
          generalize (if m.acc ((k : Int) * 256 + 8 * (i : Int)) 1 = 0 then m.h (((k : Int) * 256 + 8 * (i : Int)) / 8) else 0) = r1 at *
          generalize m.acc ((k : Int) * 256 + 8 * (i : Int)) 1 = r2 at *
          go_wp2_with (first | (go_at_call 17; with_reducible refine Grew.use CR.out (fun w3 ho3 => ?_)) | (go_at_call 17; with_reducible refine Grew.use (CR'.out _ ho3) (fun w4 ho4 => ?_)))
          go_roundw
          case rel => exact ⟨i + 1, by omega, by go_num, hoi.trans (ho3.trans ho4)⟩
          case measure => simp [intOf]; omega
        · have e : i = 32 := by omega
          have d2 : decide (8 * (i : Int) < 256) = false := decide_eq_false (by omega)
          go_wp2_with fail
          go_roundw
          case rel => exact ⟨k + 1, by omega, by go_num, hoi⟩
          case measure => simp [intOf]; omega
    · have e : k = N := by omega
      have d1 : decide ((k : Int) < N) = false := decide_eq_false (by omega)
      go_wp2_with (first | (go_at_call 21; with_reducible refine Still.use CP.out ?_))
      go_ret
      exact ⟨rfl, ho⟩

theorem SpM.act_err {m : SpM} {x : Ac} (h : m.actE x ≠ 0) : m.act x = m := by
  unfold SpM.actE at h
  unfold SpM.act
  repeat' split at h
  all_goals simp_all [SpM.mapM, SpM.leaveM, SpM.writeM, SpM.fillM, SpM.copyM]
end Go.Proofs.YtmalmkccgjeboaaDoor

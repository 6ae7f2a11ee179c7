/- Same on a space and the reference's; both. -/
import Derived.Test.YtmalmkccgjeboaaDoorWL
import Derived.Test.YtmalmkccgjeboaaDoorWE
set_option linter.unusedVariables false
set_option linter.unusedSimpArgs false
namespace Go.Proofs.YtmalmkccgjeboaaDoor
open Go.RowKit
open Go.ChangeMaps Go.Maps

theorem SpM.cnt_page {m : SpM} {k : Int} (h : m.stateOf k = 2) : 0 ≤ k ∧ k < m.n ∧ m.cnt (k * 256) 32 = 0 := by
  unfold SpM.stateOf at h
  split at h
  · cases h
  · rename_i hk
    refine ⟨by omega, by omega, ?_⟩
    unfold SpM.cnt
    rw [if_neg (by omega)]
    refine SpM.acc_can (by omega) (by omega) (by omega) (by omega) (fun j h1 h2 => ?_)
    rw [show j / 32 = k by omega, h]
    decide

set_option maxRecDepth 100000 in
set_option maxHeartbeats 8000000 in
theorem same2 {w : World} (hE : Env w) {p : Nat} {l : List Nat} {m : SpM} (h : SpaceAt w p l m) {p' q1 q2 c1 c2 : Nat} (h' : RefAt w p' q1 q2 c1 c2 m) : Grew Tryd.prog 34 #[.pointer (some ⟨p, 0, none⟩), .pointer (some ⟨p', 0, none⟩)] w (.bool true) := by
  have HE := Lib.hid hE
  have HA := Lib.hid h
  have HB := Lib.hid h'
  have C1 := Lib.hid (Pages_any h)
  have C2 := Lib.hid (xPages h')
  have C3 := Lib.hid (Mapped_any h)
  have C4 := Lib.hid (xMapped h')
  have C5 := Lib.hid (Dirty_any h)
  have C6 := Lib.hid (xDirty h')
  have C7 := Lib.hid (Peak_any h)
  have C8 := Lib.hid (xPeak h')
  rw [mapTo_cnt h.good.s1, show ((cntTo m.st 1 m.n + cntTo m.st 2 m.n : Nat) : Int) = (cntTo m.st 1 m.n : Int) + cntTo m.st 2 m.n by omega] at C3
  have hn2 := h.good.n2
  have HL := Lib.hid (fun v => Nat.le_trans (runsTo_ok m.st v m.n).len hn2)
  clear h h' hE
  have CR := Lib.hid (fun W (ho : Only [] w W) k (hk : I64 k) => Runs_any (HE.out.only ho (by simp)) (HA.out.still ho) k hk)
  have CX := Lib.hid (fun W (ho : Only [] w W) k => xRuns (HB.out.still ho) k)
  have CS := Lib.hid (fun W (ho : Only [] w W) k (hk : I64 k) => State_any (HE.out.only ho (by simp)) (HA.out.still ho) k hk)
  have CT := Lib.hid (fun W (ho : Only [] w W) k (hk : I64 k) => xState (HB.out.still ho) k hk)
  have CP := Lib.hid (fun W (ho : Only [] w W) => xPages (HB.out.still ho))
  have CW := Lib.hid (fun W (ho : Only [] w W) k (hk : I64 k) => Words_any (HE.out.only ho (by simp)) (HA.out.still ho) k 32 hk)
  have CY := Lib.hid (fun W (ho : Only [] w W) k (hk : I64 k) => xWords (HB.out.still ho) k 32 hk)
  have CN := Lib.hid (fun k (hk : m.stateOf k = 2) => m.cnt_page hk)
  clear HA HB HE
  generalize (cntTo m.st 1 m.n : Int) + cntTo m.st 2 m.n = q3 at *
  generalize m.dirty = q2 at *
  generalize m.pk = q1 at *
  have HN : Hid (∃ N, N = m.n) := ⟨_, rfl⟩
  obtain ⟨N, hN⟩ := HN.out
  rw [← hN] at C1 C2 CP hn2
  have HNN := Lib.hid hN
  clear hN HN
  go_enter Tryd.func34, Tryd.ntmps34
  go_wp2_with (first | (go_at_call 21; with_reducible refine Still.use C1.out ?_) | (go_at_call 60; with_reducible refine Still.use C2.out ?_) | (go_at_call 20; with_reducible refine Still.use C3.out ?_) | (go_at_call 61; with_reducible refine Still.use C4.out ?_) | (go_at_call 19; with_reducible refine Still.use C5.out ?_) | (go_at_call 62; with_reducible refine Still.use C6.out ?_) | (go_at_call 18; with_reducible refine Still.use C7.out ?_) | (go_at_call 63; with_reducible refine Still.use C8.out ?_))
  clear C1 C2 C3 C4 C5 C6 C7 C8
  go_loopw [5] (fun t wr => ∃ k : Int, -1 ≤ k ∧ k ≤ 4 ∧ t = .int .i64 k ∧ Only [] w wr) (fun t _ => (4 - intOf t).toNat)
  case atStart => exact ⟨-1, by omega, by omega, rfl, Only.refl _ _⟩
  case round =>
    obtain ⟨k, hk1, hk2, rfl, ho⟩ := hrel
    by_cases hlt : k ≤ 3
    · have d1 : decide (k ≤ 3) = true := decide_eq_true hlt
      have C1 := Lib.hid (CR.out wr ho k (by unfold I64; omega))
      have C2 := Lib.hid (fun W h1 => CX.out W h1 k)
      have hle := HL.out k
      generalize runsTo m.st k m.n = ls at *
      clear CR CX CS CT CP CW CY CN HL
      go_wp2_with fail
      refine C1.out.mono ?_
      rintro _ w1 ⟨x, rfl, ho1, hx⟩
      have RA := Lib.hid (own_readsR hx rfl)
      clear hx
      go_wp2_with fail
      refine (C2.out w1 (ho.trans ho1)).mono ?_
      rintro _ w2 ⟨y, rfl, ho2, hy⟩
      have RB := Lib.hid (own_readsR hy rfl)
      have CI := Lib.hid (Runs_eq w2 _ _ _ _ (RA.out.still ho2) RB.out (by omega))
      clear hy
      go_wp2_with (go_at_call 64; with_reducible refine Grew.use CI.out (fun w3 ho3 => ?_))
      go_roundw
      case rel => exact ⟨k + 1, by omega, by omega, by go_num, ho.trans (ho1.trans (ho2.trans ho3))⟩
      case measure => simp [intOf]; omega
    · have d1 : decide (k ≤ 3) = false := decide_eq_false hlt
      go_wp2_with fail
      clear CR CX HL
      go_loopw [6] (fun t wr => ∃ k : Int, -1 ≤ k ∧ k ≤ N + 1 ∧ t = .int .i64 k ∧ Only [] w wr) (fun t _ => (N + 1 - intOf t).toNat)
      case atStart => exact ⟨-1, by omega, by omega, rfl, ho⟩
      case round =>
        clear ho d1 hlt hk1 hk2
        obtain ⟨j, hj1, hj2, rfl, ho⟩ := hrel
        have C0 := Lib.hid (CP.out wr ho)
        by_cases hlt : j ≤ N
        · have d1 : decide (j ≤ (N : Int)) = true := decide_eq_true hlt
          have C1 := Lib.hid (CS.out wr ho j (by unfold I64; omega))
          have C2 := Lib.hid (fun W h1 => CT.out W h1 j (by unfold I64; omega))
          have C3 := Lib.hid (CN.out j)
          have C4 := Lib.hid (fun W h1 => CW.out W h1 (j * 256) (by unfold I64; omega))
          have C5 := Lib.hid (fun W h1 => CY.out W h1 (j * 256) (by unfold I64; omega))
          generalize m.stateOf j = s at *
          by_cases hs : s = 2
          · subst hs
            have E := Lib.hid (C3.out rfl)
            clear C3 CS CT CP CW CY CN
            go_wp2_with (first | (go_at_call 60; with_reducible refine Still.use C0.out ?_) | (go_at_call 24; with_reducible refine Grew.use C1.out (fun w1 ho1 => ?_)) | (go_at_call 66; with_reducible refine Still.use (C2.out _ (ho.trans ho1)) ?_))
            refine (C4.out w1 (ho.trans ho1)).mono ?_
            rintro e w2 ⟨ho2, h1, _⟩
            obtain ⟨B, rfl, hI⟩ := h1 E.out.2.2
            have RA := Lib.hid (hI.readsV (c := 32))
            clear h1 hI
            go_wp2_with fail
            refine (C5.out w2 ((ho.trans ho1).trans ho2)).mono ?_
            rintro e w3 ⟨ho3, h1, _⟩
            obtain ⟨x, rfl, hx⟩ := h1 E.out.2.2
            have RB := Lib.hid (own_readsV hx)
            clear h1 hx
            have CI := Lib.hid (show Grew Tryd.prog 57 #[.slice B 32 32, x] w3 (.bool true) from Ints_eq w3 _ _ _ _ (RA.out.still ho3) RB.out (by decide))
            go_wp2_with (go_at_call 57; with_reducible refine Grew.use CI.out (fun w4 ho4 => ?_))
            go_roundw
            case rel => exact ⟨j + 1, by omega, by omega, by go_num, (ho.trans ho1).trans (ho2.trans (ho3.trans ho4))⟩
            case measure => simp [intOf]; omega
          · have d2 : (s == 2) = false := beq_eq_false_iff_ne.2 hs
            have d3 : (s != 2) = true := by simp [hs]
            clear C3 C4 C5 CS CT CP CW CY CN hs
            go_wp2_with (first | (go_at_call 60; with_reducible refine Still.use C0.out ?_) | (go_at_call 24; with_reducible refine Grew.use C1.out (fun w1 ho1 => ?_)) | (go_at_call 66; with_reducible refine Still.use (C2.out _ (ho.trans ho1)) ?_))
            go_roundw
            case rel => exact ⟨j + 1, by omega, by omega, by go_num, ho.trans ho1⟩
            case measure => simp [intOf]; omega
        · have d1 : decide (j ≤ (N : Int)) = false := decide_eq_false hlt
          go_wp2_with (first | (go_at_call 60; with_reducible refine Still.use C0.out ?_))
          go_ret
          exact ⟨rfl, ho⟩
end Go.Proofs.YtmalmkccgjeboaaDoor

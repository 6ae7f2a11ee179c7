/- The walk of SpacePeak. -/
import Derived.Test.YtmalmkccgjeboaaDoorVM
set_option linter.unusedVariables false
set_option linter.unusedSimpArgs false
namespace Go.Proofs.YtmalmkccgjeboaaDoor
open Go.RowKit

theorem SpM.putW_pk (m : SpM) (j v : Int) : m.pk ≤ (m.putW j v).pk := by
  show m.pk ≤ (if m.st (j / 32) = 2 then m.pk else max m.pk _)
  split <;> omega
theorem SpM.puts_pk (m : SpM) (j : Int) (f : Nat → Int) (k : Nat) : m.pk ≤ (m.puts j f k).pk := by
  induction k with
  | zero => exact Int.le_refl _
  | succ k ih => exact Int.le_trans ih (putW_pk _ _ _)
theorem SpM.act_pk (m : SpM) (x : Ac) : m.pk ≤ (m.act x).pk := by
  unfold SpM.act
  repeat' split
  all_goals first
    | exact Int.le_refl _
    | (unfold SpM.mapM; split <;> exact Int.le_refl _)
    | (unfold SpM.leaveM; split <;> exact Int.le_refl _)
    | (unfold SpM.writeM; split; exact SpM.putW_pk _ _ _; exact Int.le_refl _)
    | (unfold SpM.fillM; split; exact SpM.puts_pk _ _ _ _; exact Int.le_refl _)
    | (unfold SpM.copyM; split; exact SpM.puts_pk _ _ _ _; exact Int.le_refl _)
theorem cnt_mapTo {st : Int → Int} (k : Nat) : cntTo st 2 k ≤ mapTo st k := by
  induction k with
  | zero => exact Nat.le_refl _
  | succ k ih =>
    unfold cntTo mapTo
    by_cases e : st k = 0
    · rw [if_pos e, e]; simpa using ih
    · rw [if_neg e]; split <;> omega

set_option maxRecDepth 100000 in
set_option maxHeartbeats 4000000 in
theorem SpacePeak_walk (w : World) (hE : Env w) (pages : Int) (hp : 0 ≤ pages ∧ pages ≤ 255) (A : Option Addr) (n c : Nat) (l : List Ac) (hr : ReadsA w A n l) (hn : n ≤ 9223372036854775807) :
    Grew Tryd.prog 4 #[.int .u8 pages, .slice A n c] w (.bool true) := by
  have HR := Lib.hid hr
  have HE := Lib.hid hE
  have CG := Lib.hid (great_any w A n c hn)
  by_cases hg : 40 < n
  · rw [decide_eq_true hg] at CG
    clear hr hE
    go_enter Tryd.func4, Tryd.ntmps4
    go_wp2_with (first | (go_at_call 13; refine Still.use CG.out ?_) | (go_at_call 14; refine Grew.use (alive_any _ HE.out) (fun w1 ho1 => ?_)))
    go_ret
    exact ⟨rfl, ho1⟩
  · rw [decide_eq_false hg] at CG
    have CM := Lib.hid (lmade_any hE pages hp none 0 0 [] (ReadsA.none w) (by omega))
    clear hr hE
    go_enter Tryd.func4, Tryd.ntmps4
    go_wp2_with (first | (go_at_call 13; refine Still.use CG.out ?_))
    refine CM.out.mono ?_
    rintro e w1 ⟨ho1, p, l1, rfl, hs1, hl1⟩
    obtain ⟨m0, hm0⟩ : ∃ m0, m0 = SpM.fresh (pages % 64 + 1).toNat := ⟨_, rfl⟩
    rw [← hm0] at hs1
    have hpk0 : m0.pk = 0 := by rw [hm0]; rfl
    have HS1 := Lib.hid hs1
    have HL1 := Lib.hid hl1
    clear hm0 hs1 hl1 CM
    go_wp2_with fail
    go_loopw [6, 7] (fun q t wr => ∃ k : Nat, k ≤ n ∧ t = .int .i64 k ∧ q = .int .i64 (m0.acts l k).pk ∧ Only [] w wr ∧ ∃ L, SpaceAt wr p L (m0.acts l k) ∧ ∀ b ∈ L, w.heap.size ≤ b) (fun _ t _ => n - (intOf t).toNat)
    case atStart => exact ⟨0, Nat.zero_le _, rfl, by rw [show m0.acts l 0 = m0 from rfl, hpk0], ho1, l1, HS1.out, HL1.out⟩
    case round =>
      obtain ⟨k, hk, rfl, rfl, ho, L, hs, hL⟩ := hrel
      by_cases hlt : k < n
      · have d1 : decide ((k : Int) < n) = true := decide_eq_true (by omega)
        obtain ⟨hok, ad, rfl, c0, c1, c2, c3⟩ := (HR.out.still ho).at_ hlt
        have CD := Lib.hid (do_any (HE.out.only ho (by simp)) hs (vAt l k) hok)
        have HACT : Hid (m0.acts l (k + 1) = (m0.acts l k).act (vAt l k)) := rfl
        have HPK := SpM.act_pk (m0.acts l k) (vAt l k)
        have HHL := Lib.hid hL
        generalize (m0.acts l k).actE (vAt l k) = ee at *
        generalize (m0.acts l k).act (vAt l k) = mm at *
        generalize (m0.acts l k).pk = pk at *
        generalize vAt l k = x at *
        clear hs hok hL
        obtain ⟨xk, xa, xb, xc⟩ := x
        dsimp only at *
        go_wp2_with fail
        refine CD.out.mono ?_
        rintro e w2 ⟨rfl, hT⟩
        obtain ⟨ho2, L2, hs2, hL2⟩ := Turn.new ho HHL.out hT
        have CPK := Lib.hid (Peak_any hs2)
        have CDI := Lib.hid (Dirty_any hs2)
        have CMA := Lib.hid (Mapped_any hs2)
        have CPA := Lib.hid (Pages_any hs2)
        have e1 := hs2.good.p0
        have e2 : mm.dirty ≤ mapTo mm.st mm.n := cnt_mapTo mm.n
        have e3 := mapTo_le mm.st mm.n
        have e4 := hs2.good.n2
        have HS2 := Lib.hid hs2
        have HM : Hid (∃ q, q = mm.pk) := ⟨_, rfl⟩
        obtain ⟨q1, hq1⟩ : ∃ q1, q1 = mm.pk := ⟨_, rfl⟩
        have HQ := Lib.hid hq1
        rw [← hq1] at CPK e1 HPK
        clear hs2 hT hq1 HM
        generalize mm.dirty = q2 at *
        generalize mapTo mm.st mm.n = q3 at *
        generalize hnn : mm.n = q4 at *
        have f1 : decide (q1 < pk) = false := decide_eq_false (by omega)
        have f2 : decide (q1 < (q2 : Int)) = false := decide_eq_false (by omega)
        have f3 : decide ((q3 : Int) < q2) = false := decide_eq_false (by omega)
        have f3' : decide (q3 < q2) = false := decide_eq_false (by omega)
        have f4 : decide ((q4 : Int) < q3) = false := decide_eq_false (by omega)
        have f4' : decide (q4 < q3) = false := decide_eq_false (by omega)
        go_wp2_with (first | (go_at_call 18; refine Still.use CPK.out ?_) | (go_at_call 19; refine Still.use CDI.out ?_) | (go_at_call 20; refine Still.use CMA.out ?_) | (go_at_call 21; refine Still.use CPA.out ?_))
        go_roundw
        case rel => exact ⟨k + 1, by omega, by go_num, by rw [HACT.out, HQ.out], ho2, L2, by rw [HACT.out]; exact HS2.out, hL2⟩
        case measure => simp [intOf]; omega
      · have e : k = n := by omega
        subst e
        have d1 : decide ((k : Int) < k) = false := decide_eq_false (by omega)
        go_wp2_with (first | (go_at_call 14; refine Grew.use (alive_any _ (HE.out.only ho (by simp))) (fun w5 ho5 => ?_)))
        go_ret
        exact ⟨rfl, ho.trans ho5⟩
end Go.Proofs.YtmalmkccgjeboaaDoor

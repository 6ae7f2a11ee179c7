/- The reference's space: can, put, Read, Write. -/
import Derived.Test.YtmalmkccgjeboaaDoorWG
set_option linter.unusedVariables false
set_option linter.unusedSimpArgs false
namespace Go.Proofs.YtmalmkccgjeboaaDoor
open Go.RowKit

theorem SpM.acc_07 (m : SpM) (addr words : Int) : m.acc addr words = 0 ∨ m.acc addr words = 7 := by
  unfold SpM.acc
  repeat' split
  all_goals simp
theorem SpM.acc_can {m : SpM} {addr words : Int} (hw : 1 ≤ words) (h0 : 0 ≤ addr) (h1 : addr % 8 = 0) (h2 : addr / 8 + words ≤ 32 * m.n) (h3 : ∀ j : Int, addr / 8 ≤ j → j < addr / 8 + words → m.st (j / 32) ≠ 0) : m.acc addr words = 0 := by
  unfold SpM.acc
  rw [if_neg (by omega), if_neg (by omega), if_neg (by unfold lastP; omega), if_neg]
  rw [anyTo_true]
  rintro ⟨k, hk, hz⟩
  have hz : m.st (((addr / 256).toNat : Int) + k) = 0 := by simpa using hz
  have hk2 : (addr / 256) + k ≤ (addr / 8 + words - 1) / 32 := by unfold lastP at hk; omega
  by_cases e : addr / 8 ≤ 32 * (addr / 256 + k)
  · refine h3 (32 * (addr / 256 + k)) e (by omega) ?_
    rw [← hz]
    congr 1
    omega
  · refine h3 (addr / 8) (by omega) (by omega) ?_
    rw [← hz]
    congr 1
    omega

section
variable {w : World} {p q1 q2 c1 c2 : Nat} {m : SpM}

set_option maxHeartbeats 4000000 in
theorem xcan (h : RefAt w p q1 q2 c1 c2 m) (addr words : Int) (ha : I64 addr) (hw1 : 0 ≤ words) (hw2 : words ≤ 32768) :
    Still Tryd.prog 73 #[.pointer (some ⟨p, 0, none⟩), .int .i64 addr, .int .i64 words] w (.bool (decide (m.acc addr words = 0))) := by
  have z0 := h.blk.cell_ 0 rfl
  have z1 := h.blk.cell_ 1 rfl
  have n2 := h.n2
  have hk1 := h.k1
  have hk2 := h.k2
  obtain ⟨ha1, ha2⟩ := ha
  have HS := Lib.hid h.sts
  clear h
  by_cases h0 : words = 0
  · have E := Lib.hid (show m.acc addr words = 0 by unfold SpM.acc; rw [if_pos h0])
    subst h0
    clear z0 z1
    go_enter Tryd.func73, Tryd.ntmps73
    go_wp2_with fail
    go_ret
    exact ⟨by rw [decide_eq_true E.out]; rfl, rfl⟩
  have d0 : (words == 0) = false := beq_eq_false_iff_ne.2 h0
  by_cases h1 : addr < 0
  · have E := Lib.hid (show ¬ m.acc addr words = 0 from fun e => by have := SpM.acc_ok (by omega) e; omega)
    have d1 := decide_eq_true h1
    clear z0 z1 h0
    go_enter Tryd.func73, Tryd.ntmps73
    go_wp2_with fail
    go_ret
    exact ⟨by rw [decide_eq_false E.out]; rfl, rfl⟩
  have d1 := decide_eq_false h1
  have t1 : addr.tmod 8 = addr % 8 := Int.tmod_eq_emod_of_nonneg (by omega)
  have t2 : addr.tdiv 8 = addr / 8 := Int.tdiv_eq_ediv_of_nonneg (by omega)
  by_cases h2 : addr % 8 = 0
  · have d2 : (addr % 8 != 0) = false := by rw [h2]; rfl
    have d2' : (addr % 8 == 0) = true := by rw [h2]; rfl
    by_cases h3 : 32 * (m.n : Int) ≤ addr / 8
    · have E := Lib.hid (show ¬ m.acc addr words = 0 from fun e => by have := SpM.acc_ok (by omega) e; omega)
      have d3 := decide_eq_true h3
      have q0 : 0 ≤ addr / 8 := by omega
      have q1 : addr / 8 ≤ 9223372036854775807 := by omega
      generalize m.n = n at *
      generalize addr / 8 = q at *
      clear h0 h2 h3
      go_enter Tryd.func73, Tryd.ntmps73
      go_wp2_with fail
      go_ret
      exact ⟨by rw [decide_eq_false E.out]; rfl, rfl⟩
    have d3 := decide_eq_false h3
    by_cases h4 : 32 * (m.n : Int) - addr / 8 < words
    · have E := Lib.hid (show ¬ m.acc addr words = 0 from fun e => by have := SpM.acc_ok (by omega) e; omega)
      have d4 := decide_eq_true h4
      have q0 : 0 ≤ addr / 8 := by omega
      have q1 : addr / 8 ≤ 32768 := by omega
      generalize m.n = n at *
      generalize addr / 8 = q at *
      clear h0 h2 h3 h4
      go_enter Tryd.func73, Tryd.ntmps73
      go_wp2_with fail
      go_ret
      exact ⟨by rw [decide_eq_false E.out]; rfl, rfl⟩
    have d4 := decide_eq_false h4
    obtain ⟨na, hna⟩ : ∃ na : Nat, addr / 8 = na := ⟨(addr / 8).toNat, by omega⟩
    obtain ⟨nw, rfl⟩ : ∃ nw : Nat, words = nw := ⟨words.toNat, by omega⟩
    have HA := Lib.hid (fun (k : Nat) (hk : k < nw) (hz : m.st (((na + k) / 32 : Nat) : Int) = 0) => show decide (m.acc addr nw = 0) = false from decide_eq_false fun e => by
      refine (SpM.acc_ok (by omega) e).2.2.2 ((na : Int) + k) (by omega) (by omega) ?_
      rw [← hz]
      congr 1)
    have HB := Lib.hid (fun (hz : ∀ k : Nat, k < nw → m.st (((na + k) / 32 : Nat) : Int) ≠ 0) => show decide (m.acc addr nw = 0) = true from decide_eq_true <| SpM.acc_can (by omega) (by omega) h2 (by omega) (fun j h1 h2 hj => by
      refine hz (j - na).toNat (by omega) ?_
      rw [← hj]
      congr 1
      omega))
    rw [hna] at t2 d3 d4 h3 h4
    clear hna
    generalize decide (m.acc addr nw = 0) = B at *
    generalize hst : m.st = st at *
    generalize m.n = n at *
    clear hst
    have d5 : ((nw : Int) == 0) = false := beq_eq_false_iff_ne.2 (by omega)
    go_enter Tryd.func73, Tryd.ntmps73
    go_wp2_with fail
    clear d0 d1 d2 d2' d3 d4 d5 t1
    go_loop [7] (fun x => ∃ k : Nat, k ≤ nw ∧ x = .int .i64 k ∧ Hid (∀ j : Nat, j < k → st (((na + j) / 32 : Nat) : Int) ≠ 0)) (fun x => nw - (intOf x).toNat)
    case atStart => exact ⟨0, Nat.zero_le _, rfl, fun j hj => absurd hj (by omega)⟩
    case round =>
      obtain ⟨k, hk, rfl, HZ⟩ := hrel
      by_cases hlt : k < nw
      · have d1 : decide ((k : Int) < nw) = true := decide_eq_true (by omega)
        obtain ⟨pg, hpg⟩ : ∃ pg, (na + k) / 32 = pg := ⟨_, rfl⟩
        have t3 : ((na : Int) + k).tdiv 32 = pg := by rw [Int.tdiv_eq_ediv_of_nonneg (by omega)]; omega
        have y0 := HS.out.cell (k := pg) (by omega)
        have hpn : pg < n := by omega
        have HA2 := Lib.hid (HA.out k hlt)
        have HZ2 := Lib.hid (fun (hz : st (pg : Int) ≠ 0) => show ∀ j : Nat, j < k + 1 → st (((na + j) / 32 : Nat) : Int) ≠ 0 from fun j hj => by
          rcases Nat.lt_or_ge j k with e | e
          · exact HZ.out j e
          · obtain rfl : j = k := by omega
            rw [hpg]; exact hz)
        rw [hpg] at HA2
        clear hpg
        generalize st (pg : Int) = x at y0 HA2 HZ2
        by_cases e : x = 0
        · have hB := HA2.out e
          subst e hB
          clear HZ2 HA2 HA HB
          go_wp2_with fail
          go_ret
          exact ⟨rfl, rfl⟩
        · have HZ3 := Lib.hid (HZ2.out e)
          have d2 : (x == 0) = false := beq_eq_false_iff_ne.2 e
          clear e
          go_wp2_with fail
          go_round
          case rel => exact ⟨k + 1, by omega, by go_num, HZ3.out⟩
          case measure => simp [intOf]; omega
      · have e : k = nw := by omega
        subst e
        have d1 : decide ((k : Int) < k) = false := decide_eq_false (by omega)
        have hB := HB.out HZ.out
        subst hB
        clear HA HB
        go_wp2_with fail
        go_ret
        exact ⟨rfl, rfl⟩
  · have E := Lib.hid (show ¬ m.acc addr words = 0 from fun e => by have := SpM.acc_ok (by omega) e; omega)
    have d2 : (addr % 8 != 0) = true := bne_iff_ne.2 h2
    have d2' : (addr % 8 == 0) = false := beq_eq_false_iff_ne.2 h2
    clear z0 z1 h0 h2
    generalize addr % 8 = r at *
    go_enter Tryd.func73, Tryd.ntmps73
    go_wp2_with fail
    go_ret
    exact ⟨by rw [decide_eq_false E.out]; rfl, rfl⟩

set_option maxHeartbeats 1600000 in
theorem xput (h : RefAt w p q1 q2 c1 c2 m) (j v : Int) (h0 : 0 ≤ j) (h1 : j < 32 * m.n) :
    Calls Tryd.prog 74 #[.pointer (some ⟨p, 0, none⟩), .int .i64 j, .int .i64 v] w fun e w' => e = .returned (.tuple #[]) ∧ Only [p, q1, q2] w w' ∧ RefAt w' p q1 q2 c1 c2 (m.putW j v) := by
  obtain ⟨n1, n2, hk1, hk2, e1, e2, e3, hb, hs, hh⟩ := h
  obtain ⟨nj, rfl⟩ : ∃ nj : Nat, j = nj := ⟨j.toNat, by omega⟩
  obtain ⟨pg, hpg⟩ : ∃ pg, nj / 32 = pg := ⟨_, rfl⟩
  have hpn : pg < m.n := by omega
  have hpi : (nj : Int) / 32 = pg := by omega
  have t1 : (nj : Int).tdiv 32 = pg := by rw [Int.tdiv_eq_ediv_of_nonneg (by omega)]; exact hpi
  have hjn : nj < 32 * m.n := by omega
  have z1 := hb.cell_ 1 rfl
  have y0 := hh.cell (k := nj) hjn
  have f0 := hh.frozen nj
  have ho1 := (Only.refl [p, q1, q2] w).setCell (p := ⟨q2, nj, none⟩) (.inl (by simp)) (.int .i64 v)
  have hb1 := hb.far (p := ⟨q2, nj, none⟩) e2 (.int .i64 v)
  have hs1 := hs.far (p := ⟨q2, nj, none⟩) e3 (.int .i64 v)
  have hh1 := (hh.set_ nj (.int .i64 v)).congr (f' := fun i => .int .i64 ((m.putW nj v).h i)) (fun i _ => by
    show _ = Value.int .i64 (if (i : Int) = nj then v else m.h i)
    by_cases e : i = nj
    · rw [if_pos e, if_pos (by omega)]
    · rw [if_neg e, if_neg (by omega)])
  generalize m.h nj = old at y0
  have HO1 := Lib.hid ho1
  have HB1 := Lib.hid hb1
  have HS1 := Lib.hid hs1
  have HH1 := Lib.hid hh1
  clear hb hs hh ho1 hb1 hs1 hh1 h0 h1 hpg
  by_cases e : m.st pg = 2
  · have E := Lib.hid e
    have z0 := HB1.out.cell_ 0 rfl
    have y1 := HS1.out.cell (k := pg) hpn
    rw [e] at y1
    have HR := Lib.hid (⟨n1, n2, hk1, hk2, e1, e2, e3, by
      show Blk _ p _ #[_, _, .int .i64 (if m.st ((nj : Int) / 32) = 2 then m.pk else _)]
      rw [hpi, if_pos e]
      exact HB1.out, HS1.out.congr (fun i _ => by
        show _ = Value.int .i64 (if (i : Int) = (nj : Int) / 32 then 2 else m.st i)
        by_cases e5 : (i : Int) = (nj : Int) / 32
        · rw [if_pos e5, show (i : Int) = pg by omega, e]
        · rw [if_neg e5]), HH1.out⟩ : RefAt _ p q1 q2 c1 c2 (m.putW nj v))
    clear e hpi
    generalize m.n = n at *
    go_enter Tryd.func74, Tryd.ntmps74
    go_wp2_with fail
    go_end0
    exact ⟨rfl, HO1.out, HR.out⟩
  · have E := Lib.hid e
    have z0 := HB1.out.cell_ 0 rfl
    have y1 := HS1.out.cell (k := pg) hpn
    have f1 := HS1.out.frozen pg
    have d1 : (m.st pg != 2) = true := bne_iff_ne.2 e
    have d2 : (m.st pg == 2) = false := beq_eq_false_iff_ne.2 e
    have ho2 := HO1.out.setCell (p := ⟨q1, pg, none⟩) (.inl (by simp)) (.int .i64 2)
    have hb2 := HB1.out.far (p := ⟨q1, pg, none⟩) e1 (.int .i64 2)
    have hh2 := HH1.out.far (p := ⟨q1, pg, none⟩) (fun h => e3 h.symm) (.int .i64 2)
    have hs2 := (HS1.out.set_ pg (.int .i64 2)).congr (f' := fun i => .int .i64 ((m.putW nj v).st i)) (fun i _ => by
      show _ = Value.int .i64 (if (i : Int) = (nj : Int) / 32 then 2 else m.st i)
      by_cases e5 : i = pg
      · rw [if_pos e5, if_pos (by omega)]
      · rw [if_neg e5, if_neg (by omega)])
    have HR := Lib.hid (⟨n1, n2, hk1, hk2, e1, e2, e3, hb2, hs2, hh2⟩ : RefAt _ p q1 q2 c1 c2 { m.putW nj v with pk := m.pk })
    have HO2 := Lib.hid ho2
    have HPK := Lib.hid (show (m.putW nj v).pk = max m.pk (cntTo (m.putW nj v).st 2 m.n) by
      exact if_neg (by rw [hpi]; exact e))
    clear ho2 hb2 hh2 hs2 e hpi
    generalize hx : m.st pg = x at *
    clear hx
    have CD := Lib.hid (xDirty HR.out)
    obtain ⟨D, hD⟩ : ∃ D, D = cntTo (m.putW nj v).st 2 m.n := ⟨_, rfl⟩
    rw [show SpM.dirty { m.putW nj v with pk := m.pk } = D from hD.symm] at CD
    rw [← hD] at HPK
    clear hD
    have z2 := HR.out.blk.cell_ 2 rfl
    have f2 := HR.out.blk.frozen 2
    have HF := Lib.hid (fun (u : Int) (hu : u = (m.putW nj v).pk) => (⟨n1, n2, hk1, hk2, e1, e2, e3, by
        have := HR.out.blk.set_ 2 (.int .i64 u)
        rw [hu] at this ⊢
        exact this, HR.out.sts.far (p := ⟨p, 2, none⟩) (fun h => e1 h.symm) (.int .i64 u), HR.out.hds.far (p := ⟨p, 2, none⟩) (fun h => e2 h.symm) (.int .i64 u)⟩ : RefAt (((w.setCell ⟨q2, nj, none⟩ (.int .i64 v)).setCell ⟨q1, pg, none⟩ (.int .i64 2)).setCell ⟨p, 2, none⟩ (.int .i64 u)) p q1 q2 c1 c2 (m.putW nj v)))
    have HO3 := Lib.hid (fun u => HO2.out.setCell (p := ⟨p, 2, none⟩) (.inl (by simp)) (.int .i64 u))
    rw [HPK.out] at HF
    have z2' : (((w.setCell ⟨q2, nj, none⟩ (.int .i64 v)).setCell ⟨q1, pg, none⟩ (.int .i64 2))).cell? ⟨p, 2, none⟩ = some (.int .i64 m.pk) := z2
    clear z2
    generalize hpk : m.pk = pk at *
    clear hpk
    generalize hn : m.n = n at *
    go_enter Tryd.func74, Tryd.ntmps74
    go_wp2_with (first | (go_at_call 62; with_reducible refine Still.use CD.out ?_))
    all_goals
      go_end0
      exact ⟨rfl, HO3.out _, HF.out _ (by omega)⟩
end
end Go.Proofs.YtmalmkccgjeboaaDoor

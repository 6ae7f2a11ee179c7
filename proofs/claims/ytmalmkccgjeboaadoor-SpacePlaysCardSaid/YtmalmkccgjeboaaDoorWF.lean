/- The reference's space: where it lies; made, in, has, set, Map, lose, Unmap, Release. -/
import Derived.Test.YtmalmkccgjeboaaDoorWD
set_option linter.unusedVariables false
set_option linter.unusedSimpArgs false
namespace Go.Proofs.YtmalmkccgjeboaaDoor
open Go.RowKit

structure RefAt (w : World) (p q1 q2 c1 c2 : Nat) (m : SpM) : Prop where
  n1 : 1 ≤ m.n
  n2 : m.n ≤ 1024
  k1 : m.n ≤ c1
  k2 : 32 * m.n ≤ c2
  e1 : p ≠ q1
  e2 : p ≠ q2
  e3 : q1 ≠ q2
  blk : Blk w p 82 #[.slice (some ⟨q1, 0, none⟩) m.n c1, .slice (some ⟨q2, 0, none⟩) (32 * m.n) c2, .int .i64 m.pk]
  sts : Row w q1 m.n (fun k => .int .i64 (m.st k))
  hds : Row w q2 (32 * m.n) (fun k => .int .i64 (m.h k))
namespace RefAt
variable {w w' : World} {p q1 q2 c1 c2 : Nat} {m : SpM}
theorem only {l : List Nat} (h : RefAt w p q1 q2 c1 c2 m) (ho : Only l w w') (hp : p ∉ l) (h1 : q1 ∉ l) (h2 : q2 ∉ l) : RefAt w' p q1 q2 c1 c2 m := by
  obtain ⟨a1, a2, a3, a4, a5, a6, a7, b1, b2, b3⟩ := h
  exact ⟨a1, a2, a3, a4, a5, a6, a7, b1.only ho hp, b2.only ho h1, b3.only ho h2⟩
theorem still (h : RefAt w p q1 q2 c1 c2 m) (ho : Only [] w w') : RefAt w' p q1 q2 c1 c2 m := h.only ho (by simp) (by simp) (by simp)
theorem ltp (h : RefAt w p q1 q2 c1 c2 m) : p < w.heap.size := h.blk.lt
theorem lt1 (h : RefAt w p q1 q2 c1 c2 m) : q1 < w.heap.size := h.sts.lt
theorem lt2 (h : RefAt w p q1 q2 c1 c2 m) : q2 < w.heap.size := h.hds.lt
theorem drewN (h : RefAt w p q1 q2 c1 c2 m) (k : Nat) : RefAt (w.drewN k) p q1 q2 c1 c2 m := h.still ((Only.refl [] w).drewN k)
theorem drew (h : RefAt w p q1 q2 c1 c2 m) : RefAt w.drew p q1 q2 c1 c2 m := h.still (Only.refl [] w).drew
end RefAt

theorem xmade {w : World} {p q1 q2 c1 c2 : Nat} {m : SpM} (h : RefAt w p q1 q2 c1 c2 m) : Still Tryd.prog 50 #[.pointer (some ⟨p, 0, none⟩)] w (.bool true) := by
  have z0 := h.blk.cell_ 0 rfl
  have n1 := h.n1
  have d1 : decide ((0 : Int) < (m.n : Int)) = true := decide_eq_true (by omega)
  have d2 : decide (0 < m.n) = true := decide_eq_true (by omega)
  clear h
  generalize m.n = n at *
  go_enter Tryd.func50, Tryd.ntmps50
  go_wp2_with fail
  go_ret
  exact ⟨rfl, rfl⟩

theorem xin_yes {w : World} {p q1 q2 c1 c2 : Nat} {m : SpM} (h : RefAt w p q1 q2 c1 c2 m) {a b : Int} (hi : m.inR a b) : Still Tryd.prog 69 #[.pointer (some ⟨p, 0, none⟩), .int .i64 a, .int .i64 b] w (.bool true) := by
  have z0 := h.blk.cell_ 0 rfl
  have n2 := h.n2
  obtain ⟨i1, i2, i3, i4⟩ := hi
  clear h
  generalize m.n = n at *
  have d1 : decide (0 ≤ a) = true := decide_eq_true i1
  have d2 : decide (1 ≤ b) = true := decide_eq_true i2
  have d3 : decide (a < (n : Int)) = true := decide_eq_true (by omega)
  have d4 : decide (b ≤ (n : Int) - a) = true := decide_eq_true i4
  go_enter Tryd.func69, Tryd.ntmps69
  go_wp2_with fail
  go_ret
  exact ⟨rfl, rfl⟩

theorem xin_no {w : World} {p q1 q2 c1 c2 : Nat} {m : SpM} (h : RefAt w p q1 q2 c1 c2 m) {a b : Int} (hi : ¬ m.inR a b) (ha : I64 a) (hb : I64 b) : Still Tryd.prog 69 #[.pointer (some ⟨p, 0, none⟩), .int .i64 a, .int .i64 b] w (.bool false) := by
  have z0 := h.blk.cell_ 0 rfl
  have n2 := h.n2
  obtain ⟨a1, a2⟩ := ha
  unfold SpM.inR at hi
  clear h
  generalize m.n = n at *
  by_cases h1 : 0 ≤ a
  · have d1 : decide (0 ≤ a) = true := decide_eq_true h1
    by_cases h2 : 1 ≤ b
    · have d2 : decide (1 ≤ b) = true := decide_eq_true h2
      by_cases h3 : a < (n : Int)
      · have d3 : decide (a < (n : Int)) = true := decide_eq_true h3
        have d4 : decide (b ≤ (n : Int) - a) = false := decide_eq_false (by omega)
        clear hi
        go_enter Tryd.func69, Tryd.ntmps69
        go_wp2_with fail
        go_ret
        exact ⟨rfl, rfl⟩
      · have d3 : decide (a < (n : Int)) = false := decide_eq_false h3
        clear hi
        go_enter Tryd.func69, Tryd.ntmps69
        go_wp2_with fail
        go_ret
        exact ⟨rfl, rfl⟩
    · have d2 : decide (1 ≤ b) = false := decide_eq_false h2
      clear hi
      go_enter Tryd.func69, Tryd.ntmps69
      go_wp2_with fail
      go_ret
      exact ⟨rfl, rfl⟩
  · have d1 : decide (0 ≤ a) = false := decide_eq_false h1
    clear hi
    go_enter Tryd.func69, Tryd.ntmps69
    go_wp2_with fail
    go_ret
    exact ⟨rfl, rfl⟩

set_option maxHeartbeats 1600000 in
theorem xhas {w : World} {p q1 q2 c1 c2 : Nat} {m : SpM} (h : RefAt w p q1 q2 c1 c2 m) {a b : Int} (hi : m.inR a b) (t : Bool) :
    Still Tryd.prog 70 #[.pointer (some ⟨p, 0, none⟩), .int .i64 a, .int .i64 b, .bool t] w (.bool (!(anyTo (fun v => (v != 0) != t) (fun k => m.st (a + k)) b.toNat))) := by
  have z0 := h.blk.cell_ 0 rfl
  have n2 := h.n2
  have hk1 := h.k1
  have HS := Lib.hid h.sts
  obtain ⟨i1, i2, i3, i4⟩ := hi
  clear h
  generalize hst : m.st = st at *
  generalize m.n = n at *
  clear hst
  obtain ⟨na, rfl⟩ : ∃ na : Nat, a = na := ⟨a.toNat, by omega⟩
  obtain ⟨nb, rfl⟩ : ∃ nb : Nat, b = nb := ⟨b.toNat, by omega⟩
  rw [Int.toNat_natCast]
  obtain ⟨B, hB⟩ : ∃ B, B = anyTo (fun v => (v != 0) != t) (fun k => st (na + k)) nb := ⟨_, rfl⟩
  rw [← hB]
  have HBB := Lib.hid hB
  clear hB
  go_enter Tryd.func70, Tryd.ntmps70
  go_wp2_with fail
  go_loop [9] (fun x => ∃ k : Nat, k ≤ nb ∧ x = .int .i64 ((na : Int) + k) ∧ Hid (anyTo (fun v => (v != 0) != t) (fun k => st (na + k)) k = false)) (fun x => ((na : Int) + nb - intOf x).toNat)
  case atStart => exact ⟨0, Nat.zero_le _, by simp, rfl⟩
  case round =>
    obtain ⟨k, hk, rfl, HA⟩ := hrel
    by_cases hlt : k < nb
    · have d1 : decide ((na : Int) + k < (na : Int) + nb) = true := decide_eq_true (by omega)
      have y0 := HS.out.cell (k := na + k) (by omega)
      rw [show ((na + k : Nat) : Int) = (na : Int) + k by omega] at y0
      have HN : Hid (anyTo (fun v => (v != 0) != t) (fun k => st (na + k)) (k + 1) = ((st ((na : Int) + k) != 0) != t)) := by
        show (anyTo _ _ k || _) = _
        rw [HA.out]
        rfl
      have HY := Lib.hid (fun (hx : ((st ((na : Int) + k) != 0) != t) = true) => show B = true from HBB.out.trans (anyTo_true.2 ⟨k, hlt, hx⟩))
      generalize st ((na : Int) + k) = x at *
      by_cases e : x = 0
      · have f1 : (x != 0) = false := by rw [e]; rfl
        have f2 : (x == 0) = true := by rw [e]; rfl
        rw [f1] at HN HY
        clear e
        cases t
        · clear HY
          go_wp2_with fail
          go_round
          case rel => exact ⟨k + 1, by omega, by go_num, HN⟩
          case measure => simp [intOf]; omega
        · have HY2 := Lib.hid (HY.out rfl)
          clear HY HN
          go_wp2_with fail
          go_ret
          exact ⟨by rw [HY2.out]; rfl, rfl⟩
      · have f1 : (x != 0) = true := bne_iff_ne.2 e
        have f2 : (x == 0) = false := beq_eq_false_iff_ne.2 e
        rw [f1] at HN HY
        clear e
        cases t
        · have HY2 := Lib.hid (HY.out rfl)
          clear HY HN
          go_wp2_with fail
          go_ret
          exact ⟨by rw [HY2.out]; rfl, rfl⟩
        · clear HY
          go_wp2_with fail
          go_round
          case rel => exact ⟨k + 1, by omega, by go_num, HN⟩
          case measure => simp [intOf]; omega
    · have e : k = nb := by omega
      subst e
      have d1 : decide ((na : Int) + k < (na : Int) + k) = false := decide_eq_false (by omega)
      go_wp2_with fail
      go_ret
      exact ⟨by rw [HBB.out.trans HA.out]; rfl, rfl⟩

theorem setR_st (m : SpM) (a b v i : Int) : (m.setR a b v).st i = if a ≤ i ∧ i < a + b then v else m.st i := rfl
theorem setR_h (m : SpM) (a b v j : Int) : (m.setR a b v).h j = if a ≤ j / 32 ∧ j / 32 < a + b then 0 else m.h j := rfl

set_option maxRecDepth 100000 in
set_option maxHeartbeats 4000000 in
theorem xset {w : World} {p q1 q2 c1 c2 : Nat} {m : SpM} (h : RefAt w p q1 q2 c1 c2 m) {a b : Int} (hi : m.inR a b) (v : Int) :
    Calls Tryd.prog 71 #[.pointer (some ⟨p, 0, none⟩), .int .i64 a, .int .i64 b, .int .i64 v] w fun e w' => e = .returned (.tuple #[]) ∧ Only [q1, q2] w w' ∧ RefAt w' p q1 q2 c1 c2 (m.setR a b v) := by
  obtain ⟨n1, n2, hk1, hk2, e1, e2, e3, hb, hs, hh⟩ := h
  have HB := Lib.hid hb
  have hsn : Row w q1 m.n (fun i => .int .i64 ((m.setR a 0 v).st i)) := hs.congr (fun i _ => by rw [setR_st, if_neg (by omega)])
  have hhn : Row w q2 (32 * m.n) (fun i => .int .i64 ((m.setR a 0 v).h i)) := hh.congr (fun i _ => by rw [setR_h, if_neg (by omega)])
  obtain ⟨i1, i2, i3, i4⟩ := hi
  clear hb hs hh
  obtain ⟨na, rfl⟩ : ∃ na : Nat, a = na := ⟨a.toNat, by omega⟩
  obtain ⟨nb, rfl⟩ : ∃ nb : Nat, b = nb := ⟨b.toNat, by omega⟩
  go_enter Tryd.func71, Tryd.ntmps71
  go_wp2_with fail
  go_loopw [8] (fun x wr => ∃ k : Nat, k ≤ nb ∧ x = .int .i64 ((na : Int) + k) ∧ Only [q1, q2] w wr ∧ Row wr q1 m.n (fun i => .int .i64 ((m.setR na k v).st i)) ∧ Row wr q2 (32 * m.n) (fun i => .int .i64 ((m.setR na k v).h i))) (fun x _ => ((na : Int) + nb - intOf x).toNat)
  case atStart => exact ⟨0, Nat.zero_le _, by simp, Only.refl _ _, hsn, hhn⟩
  case round =>
    clear hsn hhn
    obtain ⟨k, hk, rfl, ho, hr1, hr2⟩ := hrel
    by_cases hlt : k < nb
    · have d1 : decide ((na : Int) + k < (na : Int) + nb) = true := decide_eq_true (by omega)
      have z0 := (HB.out.only ho (by simp; omega)).cell_ 0 rfl
      have f0 := hr1.frozen (na + k)
      have y0 := hr1.cell (k := na + k) (by omega)
      have HR1 := Lib.hid ((hr1.set_ (na + k) (.int .i64 v)).congr (f' := fun i => .int .i64 ((m.setR na ((k : Int) + 1) v).st i)) (fun i _ => by
        by_cases e : i = na + k
        · rw [if_pos e, setR_st, if_pos (by omega)]
        · rw [if_neg e, setR_st, setR_st]
          by_cases e2 : (na : Int) ≤ i ∧ (i : Int) < na + k
          · rw [if_pos e2, if_pos (by omega)]
          · rw [if_neg e2, if_neg (by omega)]))
      have HR2 := Lib.hid (hr2.far (p := ⟨q1, na + k, none⟩) (by simpa using fun e => e3 e.symm) (.int .i64 v))
      have HO := Lib.hid (ho.setCell (p := ⟨q1, na + k, none⟩) (.inl (by simp)) (.int .i64 v))
      clear hr1 hr2 ho
      go_wp2_with fail
      generalize wr.setCell ⟨q1, na + k, none⟩ (.int .i64 v) = w2 at *
      clear z0 f0 y0
      go_loopw [9] (fun x wr => ∃ j : Nat, j ≤ 32 ∧ x = .int .i64 (((na : Int) + k) * 32 + j) ∧ Only [q1, q2] w wr ∧ Row wr q1 m.n (fun i => .int .i64 ((m.setR na ((k : Int) + 1) v).st i)) ∧ Row wr q2 (32 * m.n) (fun i => .int .i64 (if ((na : Int) + k) * 32 ≤ i ∧ (i : Int) < ((na : Int) + k) * 32 + j then 0 else (m.setR na k v).h i))) (fun x _ => (((na : Int) + k) * 32 + 32 - intOf x).toNat)
      case atStart => exact ⟨0, Nat.zero_le _, by simp, HO.out, HR1.out, HR2.out.congr (fun i _ => by rw [if_neg (by omega)])⟩
      case round =>
        clear HR1 HR2 HO d1
        obtain ⟨j, hj, rfl, ho, hr1, hr2⟩ := hrel
        by_cases hlj : j < 32
        · have d1 : decide (((na : Int) + k) * 32 + j < ((na : Int) + k + 1) * 32) = true := decide_eq_true (by omega)
          have z1 := (HB.out.only ho (by simp; omega)).cell_ 1 rfl
          have f0 := hr2.frozen ((na + k) * 32 + j)
          have y0 := hr2.cell (k := (na + k) * 32 + j) (by omega)
          generalize (if ((na : Int) + k) * 32 ≤ (((na + k) * 32 + j : Nat) : Int) ∧ ((((na + k) * 32 + j : Nat) : Int) : Int) < ((na : Int) + k) * 32 + j then (0 : Int) else (m.setR na k v).h (((na + k) * 32 + j : Nat) : Int)) = old at y0
          have HR1 := Lib.hid (hr1.far (p := ⟨q2, (na + k) * 32 + j, none⟩) (by simpa using e3) (.int .i64 0))
          have HR2 := Lib.hid ((hr2.set_ ((na + k) * 32 + j) (.int .i64 0)).congr (f' := fun i => .int .i64 (if ((na : Int) + k) * 32 ≤ i ∧ (i : Int) < ((na : Int) + k) * 32 + ((j + 1 : Nat) : Int) then 0 else (m.setR na k v).h i)) (fun i _ => by
            by_cases e : i = (na + k) * 32 + j
            · rw [if_pos e, if_pos (by omega)]
            · rw [if_neg e]
              by_cases e2 : ((na : Int) + k) * 32 ≤ i ∧ (i : Int) < ((na : Int) + k) * 32 + j
              · rw [if_pos e2, if_pos (by omega)]
              · rw [if_neg e2, if_neg (by omega)]))
          have HO := Lib.hid (ho.setCell (p := ⟨q2, (na + k) * 32 + j, none⟩) (.inl (by simp)) (.int .i64 0))
          clear hr1 hr2 ho
          go_wp2_with fail
          go_roundw
          case rel => exact ⟨j + 1, by omega, by go_num, HO.out, HR1.out, HR2.out⟩
          case measure => simp [intOf]; omega
        · have e : j = 32 := by omega
          subst e
          have d1 : decide (((na : Int) + k) * 32 + ((32 : Nat) : Int) < ((na : Int) + k + 1) * 32) = false := decide_eq_false (by omega)
          have HR2 := Lib.hid (hr2.congr (f' := fun i => .int .i64 ((m.setR na ((k : Int) + 1) v).h i)) (fun i _ => by
            rw [setR_h, setR_h]
            by_cases e : ((na : Int) + k) * 32 ≤ i ∧ (i : Int) < ((na : Int) + k) * 32 + ((32 : Nat) : Int)
            · rw [if_pos e, if_pos (by omega)]
            · rw [if_neg e]
              by_cases e2 : (na : Int) ≤ (i : Int) / 32 ∧ (i : Int) / 32 < na + k
              · rw [if_pos e2, if_pos (by omega)]
              · rw [if_neg e2, if_neg (by omega)]))
          have HR1 := Lib.hid hr1
          clear hr1 hr2
          go_wp2_with fail
          go_roundw
          case rel => exact ⟨k + 1, by omega, by go_num, ho, HR1.out, HR2.out⟩
          case measure => simp [intOf]; omega
    · have e : k = nb := by omega
      subst e
      have d1 : decide ((na : Int) + k < (na : Int) + k) = false := decide_eq_false (by omega)
      have HR := Lib.hid (⟨n1, n2, hk1, hk2, e1, e2, e3, HB.out.only ho (by simp; omega), hr1, hr2⟩ : RefAt wr p q1 q2 c1 c2 (m.setR na k v))
      clear hr1 hr2
      go_wp2_with fail
      go_end0
      exact ⟨rfl, ho, HR.out⟩
end Go.Proofs.YtmalmkccgjeboaaDoor

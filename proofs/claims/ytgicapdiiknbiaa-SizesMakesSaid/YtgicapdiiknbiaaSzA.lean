/- Contracts of sizes: one, objects, Objects, Tail, power, pages; of the reference: Right, Objects, Tail, Power. -/
import Derived.Test.YtgicapdiiknbiaaSzPure
set_option linter.unusedVariables false
set_option linter.unusedSimpArgs false
namespace Go.Proofs.Ytgicapdiiknbiaa
open Go.RowKit

set_option maxHeartbeats 800000 in
theorem one_any_p (w : World) (size pages batch : Int) : Grew Try.prog 31 #[.agg #[.int .i64 size, .int .i64 pages, .int .i64 batch]] w (.bool (decide (oneP size pages batch))) := by
  go_enter Try.func31, Try.ntmps31
  go_wp2
  all_goals
    go_ret
    refine ⟨?_, (Only.refl [] w).alloc _⟩
    show Ending.returned (Value.bool _) = _
    refine ret_bool ?_
    first
      | (symm; rw [decide_eq_false_iff_not]; unfold oneP; omega)
      | (rw [decide_eq_decide]; unfold oneP; omega)

set_option maxHeartbeats 800000 in
theorem right_any_p (w : World) (size pages batch : Int) : Grew Try.prog 17 #[.agg #[.int .i64 size, .int .i64 pages, .int .i64 batch]] w (.bool (decide (oneP size pages batch))) := by
  go_enter Try.func17, Try.ntmps17
  go_wp2
  all_goals
    go_ret
    refine ⟨?_, (Only.refl [] w).alloc _⟩
    show Ending.returned (Value.bool _) = _
    refine ret_bool ?_
    first
      | (symm; rw [decide_eq_false_iff_not]; unfold oneP; omega)
      | (rw [decide_eq_decide]; unfold oneP; omega)

theorem Cl.dec (c : Cl) : decide c.ok = decide (oneP c.s c.p c.b) := decide_eq_decide.2 Iff.rfl
theorem one_any (w : World) (c : Cl) : Grew Try.prog 31 #[c.val] w (.bool (decide c.ok)) := by
  rw [Cl.dec]
  exact one_any_p w c.s c.p c.b
theorem right_any (w : World) (c : Cl) : Grew Try.prog 17 #[c.val] w (.bool (decide c.ok)) := by
  rw [Cl.dec]
  exact right_any_p w c.s c.p c.b

/-- What a class needs for its objects to be counted. -/
def Cl.small (c : Cl) : Prop := 8 ≤ c.s ∧ c.s ≤ 512 ∧ 1 ≤ c.p ∧ c.p ≤ 4
theorem Cl.ok.small {c : Cl} (h : c.ok) : c.small := by obtain ⟨h1, h2, h3, h4, h5, h6, h7, h8⟩ := h; exact ⟨h1, h2, h4, h5⟩

set_option maxHeartbeats 800000 in
theorem objects_any (w : World) (c : Cl) (h : c.small) : Grew Try.prog 32 #[c.val] w (.int .i64 c.n) := by
  obtain ⟨size, pages, batch⟩ := c
  obtain ⟨h1, h2, h4, h5⟩ := h
  unfold Cl.val Cl.n
  dsimp only at *
  have hs0 : (size == 0) = false := beq_eq_false_iff_ne.2 (by omega)
  go_enter Try.func32, Try.ntmps32
  go_wp2
  go_ret
  exact ⟨rfl, (Only.refl [] w).alloc _⟩

theorem Cl.n_facts {c : Cl} (h : c.small) : 0 ≤ c.n ∧ c.n * c.s ≤ c.p * 256 ∧ c.p * 256 < (c.n + 1) * c.s ∧ 0 ≤ c.n * c.s ∧ c.n ≤ 128 := by
  obtain ⟨h1, h2, h4, h5⟩ := h
  have q0 : 0 ≤ c.n := Int.ediv_nonneg (by omega) (by omega)
  have q1 : c.n * c.s ≤ c.p * 256 := Int.ediv_mul_le _ (by omega)
  have q2 : c.p * 256 < (c.n + 1) * c.s := Int.lt_ediv_add_one_mul_self _ (by omega)
  have q3 : c.n * 8 ≤ c.n * c.s := Int.mul_le_mul_of_nonneg_left h1 q0
  exact ⟨q0, q1, q2, by omega, by omega⟩

set_option maxHeartbeats 800000 in
theorem Objects_any (w : World) (c : Cl) : Grew Try.prog 15 #[c.val] w (.tuple #[.int .i64 (if c.ok then c.n else 0), .int .i64 (if c.ok then 0 else 1)]) := by
  have b := Blk.new w 24 #[.int .i64 c.s, .int .i64 c.p, .int .i64 c.b]
  have C := one_any (w.alloc (.cells #[.int .i64 c.s, .int .i64 c.p, .int .i64 c.b] 24)) c
  have D := fun W (h : c.ok) => objects_any W c h.small
  obtain ⟨size, pages, batch⟩ := c
  unfold Cl.val at *
  by_cases hone : Cl.ok ⟨size, pages, batch⟩
  · rw [if_pos hone, if_pos hone]
    rw [decide_eq_true hone] at C
    have CH := Lib.hid C
    have DH := Lib.hid (fun W => D W hone)
    clear C D hone
    generalize Cl.n ⟨size, pages, batch⟩ = m at *
    dsimp only at *
    go_enter Try.func15, Try.ntmps15
    go_wp2_with (first | (go_at_call 31; refine Grew.use CH.out (fun w1 ho1 => ?_); have b1 := b.only ho1 (by simp); have b10 := b1.cell_ 0 rfl; have b11 := b1.cell_ 1 rfl; have b12 := b1.cell_ 2 rfl) | (go_at_call 32; refine Grew.use (DH.out w1) (fun w2 ho2 => ?_)))
    go_ret2
    exact ⟨rfl, (((Only.refl [] w).alloc _).trans ho1).trans ho2⟩
  · rw [if_neg hone, if_neg hone]
    rw [decide_eq_false hone] at C
    have CH := Lib.hid C
    clear C D hone b
    dsimp only at *
    go_enter Try.func15, Try.ntmps15
    go_wp2_with (first | (go_at_call 31; refine Grew.use CH.out (fun w1 ho1 => ?_)))
    go_ret2
    exact ⟨rfl, ((Only.refl [] w).alloc _).trans ho1⟩

set_option maxHeartbeats 1600000 in
theorem Tail_any (w : World) (c : Cl) : Grew Try.prog 16 #[c.val] w (.tuple #[.int .i64 (if c.ok then c.t else 0), .int .i64 (if c.ok then 0 else 1)]) := by
  have b := Blk.new w 24 #[.int .i64 c.s, .int .i64 c.p, .int .i64 c.b]
  have C := one_any (w.alloc (.cells #[.int .i64 c.s, .int .i64 c.p, .int .i64 c.b] 24)) c
  have D := fun W (h : c.ok) => objects_any W c h.small
  have ho0 := (Only.refl [] w).alloc (.cells #[.int .i64 c.s, .int .i64 c.p, .int .i64 c.b] 24)
  by_cases hone : c.ok
  · rw [if_pos hone, if_pos hone]
    rw [decide_eq_true hone] at C
    obtain ⟨q0, q1, q2, q3, q4⟩ := Cl.n_facts hone.small
    obtain ⟨h1, h2, h3, h4⟩ := hone.small
    have CH := Lib.hid C
    have DH := Lib.hid (fun W => D W hone)
    clear C D hone
    unfold Cl.t
    obtain ⟨size, pages, batch⟩ := c
    unfold Cl.val at *
    generalize Cl.n ⟨size, pages, batch⟩ = m at *
    dsimp only at *
    go_enter Try.func16, Try.ntmps16
    go_wp2_with (first | (go_at_call 31; refine Grew.use CH.out (fun w1 ho1 => ?_); have b1 := b.only ho1 (by simp)))
    have e1 : IntKind.i64.wrap (pages * 256) = pages * 256 := IntWalk.i64_in _ (by omega)
    have e2 : IntKind.i64.wrap (m * size) = m * size := IntWalk.i64_in _ (by omega)
    have e3 : IntKind.i64.wrap (pages * 256 - m * size) = pages * 256 - m * size := IntWalk.i64_in _ (by omega)
    go_region_held3 (fun w' => w'.cell? ⟨w.heap.size, 0, none⟩ = some (.int .i64 size) ∧ w'.cell? ⟨w.heap.size, 1, none⟩ = some (.int .i64 pages) ∧ w'.cell? ⟨w.heap.size, 2, none⟩ = some (.int .i64 batch))
      (refine ⟨Blk.cell_ (t := 24) (cs := #[.int .i64 size, .int .i64 pages, .int .i64 batch]) ?_ 0 rfl, Blk.cell_ (t := 24) (cs := #[.int .i64 size, .int .i64 pages, .int .i64 batch]) ?_ 1 rfl, Blk.cell_ (t := 24) (cs := #[.int .i64 size, .int .i64 pages, .int .i64 batch]) ?_ 2 rfl⟩ <;> assumption)
      (first | (go_at_call 32; (with_reducible refine Grew.use (DH.out _) (fun w2 ho2 => ?_)); have bb2 := b1.drew.only ho2 (by simp)))
    go_wp2
    go_ret2
    refine ⟨?_, (ho0.trans ho1).trans (Only.trans ((Only.refl _ _).drew) ho2)⟩
    simp only [e1, e2, e3]
    rfl
  · rw [if_neg hone, if_neg hone]
    rw [decide_eq_false hone] at C
    have CH := Lib.hid C
    clear C D hone b
    obtain ⟨size, pages, batch⟩ := c
    unfold Cl.val at *
    dsimp only at *
    go_enter Try.func16, Try.ntmps16
    go_wp2_with (first | (go_at_call 31; refine Grew.use CH.out (fun w1 ho1 => ?_)))
    go_ret2
    exact ⟨rfl, ho0.trans ho1⟩

set_option maxHeartbeats 800000 in
theorem robj_any (w : World) (c : Cl) (h : c.small) : Grew Try.prog 20 #[c.val] w (.int .i64 c.n) := by
  obtain ⟨q0, q1, q2, q3, q4⟩ := Cl.n_facts h
  obtain ⟨h1, h2, h4, h5⟩ := h
  obtain ⟨size, pages, batch⟩ := c
  unfold Cl.val
  have b := Blk.new w 24 #[.int .i64 size, .int .i64 pages, .int .i64 batch]
  have ho := (Only.refl [] w).alloc (.cells #[.int .i64 size, .int .i64 pages, .int .i64 batch] 24)
  generalize Cl.n ⟨size, pages, batch⟩ = m at *
  dsimp only at *
  obtain ⟨N, rfl⟩ := Int.eq_ofNat_of_zero_le q0
  clear q0
  have q5 : ((N : Int) + 1) * size ≤ 2000 := by rw [Int.add_mul]; omega
  go_enter Try.func20, Try.ntmps20
  go_wp2_with fail
  generalize w.alloc (.cells #[.int .i64 size, .int .i64 pages, .int .i64 batch] 24) = w1 at *
  have b0 := b.cell_ 0 rfl
  have b1 := b.cell_ 1 rfl
  go_loop [3] (fun t => ∃ k : Nat, k ≤ N ∧ t = .int .i64 k) (fun t => N + 1 - (intOf t).toNat)
  case atStart => exact ⟨0, Nat.zero_le _, rfl⟩
  case round =>
    obtain ⟨k, hk, rfl⟩ := hrel
    have m0 : 0 ≤ ((k : Int) + 1) * size := Int.mul_nonneg (by omega) (by omega)
    have m1 : ((k : Int) + 1) * size ≤ ((N : Int) + 1) * size := Int.mul_le_mul_of_nonneg_right (by omega) (by omega)
    by_cases hlt : k < N
    · have m2 : ((k : Int) + 1) * size ≤ (N : Int) * size := Int.mul_le_mul_of_nonneg_right (by omega) (by omega)
      have d1 : decide (((k : Int) + 1) * size ≤ pages * 256) = true := decide_eq_true (by omega)
      go_wp2
      go_round
      case rel => exact ⟨k + 1, by omega, by go_num⟩
      case measure => simp [intOf]; omega
    · have e : k = N := by omega
      subst e
      have d1 : decide (((k : Int) + 1) * size ≤ pages * 256) = false := decide_eq_false (by omega)
      go_wp2
      go_ret
      exact ⟨rfl, ho⟩

set_option maxHeartbeats 800000 in
theorem rtail_any (w : World) (c : Cl) (h : c.small) : Grew Try.prog 21 #[c.val] w (.int .i64 c.t) := by
  have D := fun W => robj_any W c h
  obtain ⟨q0, q1, q2, q3, q4⟩ := Cl.n_facts h
  obtain ⟨h1, h2, h4, h5⟩ := h
  unfold Cl.t
  obtain ⟨size, pages, batch⟩ := c
  unfold Cl.val at *
  have b := Blk.new w 24 #[.int .i64 size, .int .i64 pages, .int .i64 batch]
  have ho := (Only.refl [] w).alloc (.cells #[.int .i64 size, .int .i64 pages, .int .i64 batch] 24)
  have DH := Lib.hid D
  clear D
  generalize Cl.n ⟨size, pages, batch⟩ = m at *
  dsimp only at *
  go_enter Try.func21, Try.ntmps21
  go_wp2_with fail
  generalize w.alloc (.cells #[.int .i64 size, .int .i64 pages, .int .i64 batch] 24) = w1 at *
  have b0 := b.cell_ 0 rfl
  have b1 := b.cell_ 1 rfl
  have b2 := b.cell_ 2 rfl
  go_region_held3 (fun w' => w'.cell? ⟨w.heap.size, 0, none⟩ = some (.int .i64 size) ∧ w'.cell? ⟨w.heap.size, 1, none⟩ = some (.int .i64 pages) ∧ w'.cell? ⟨w.heap.size, 2, none⟩ = some (.int .i64 batch))
    (first | assumption | exact ⟨b0, b1, b2⟩)
    (first | (go_at_call 20; refine Grew.use (DH.out _) (fun w2 ho2 => ?_); have hS2 := (⟨(b.drew.only ho2 (by simp)).cell_ 0 rfl, (b.drew.only ho2 (by simp)).cell_ 1 rfl, (b.drew.only ho2 (by simp)).cell_ 2 rfl⟩ : w2.cell? ⟨w.heap.size, 0, none⟩ = some (.int .i64 size) ∧ w2.cell? ⟨w.heap.size, 1, none⟩ = some (.int .i64 pages) ∧ w2.cell? ⟨w.heap.size, 2, none⟩ = some (.int .i64 batch))))
  go_wp2
  go_ret
  refine ⟨(show Ending.returned (.int .i64 (IntKind.i64.wrap (IntKind.i64.wrap (pages * 256) - IntKind.i64.wrap (m * size)))) = _ from ret_int ?_), ho.trans (Only.trans ((Only.refl _ _).drew) ho2)⟩
  rw [IntWalk.i64_in (pages * 256) (by omega), IntWalk.i64_in (m * size) (by omega), IntWalk.i64_in _ (by omega)]

end Go.Proofs.Ytgicapdiiknbiaa

/- The table for 8, reckoned. -/
import Derived.Test.YtgicapdiiknbiaaSzI
set_option linter.unusedVariables false
set_option linter.unusedSimpArgs false
namespace Go.Proofs.Ytgicapdiiknbiaa
open Go.RowKit

theorem make8_cls : clsOf (makeC 8) 9 1 = (1, 0) ∧ clsOf (makeC 8) 1 16 = (1, 0) ∧ clsOf (makeC 8) 513 1 = (0, 4) := by decide +kernel
theorem make8_table : isTable (makeC 8) := by decide +kernel
theorem make8_at : 4 ≤ (makeC 8).length ∧ cAt (makeC 8) 0 = ⟨8, 1, 32⟩ ∧ cAt (makeC 8) 2 = ⟨24, 1, 21⟩ := by decide +kernel
theorem make8_objs : Cl.ok ⟨24, 1, 21⟩ ∧ Cl.n ⟨24, 1, 21⟩ = 10 ∧ Cl.t ⟨24, 1, 21⟩ = 16 := by decide +kernel
theorem make8_I64 : ∀ j, j < (makeC 8).length → I64 (cAt (makeC 8) j).s ∧ I64 (cAt (makeC 8) j).p ∧ I64 (cAt (makeC 8) j).b := by
  intro j hj
  obtain ⟨h1, h2, h3, h4, h5, h6, h7, h8⟩ := (make8_table.2.2 j hj).1
  unfold I64
  omega

/-- What alive asks of the table for 8. -/
structure Tab8 (l : List Cl) (n : Nat) : Prop where
  c1 : clsOf l 9 1 = (1, 0)
  c2 : clsOf l 1 16 = (1, 0)
  c3 : clsOf l 513 1 = (0, 4)
  tab : isTable l
  n4 : 4 ≤ n
  n70 : n ≤ 40
  a0 : cAt l 0 = ⟨8, 1, 32⟩
  a2 : cAt l 2 = ⟨24, 1, 21⟩
theorem Make8_any (w : World) : Calls Try.prog 22 #[.int .i64 8] w fun e w' => ∃ A n c l, e = .returned (.tuple #[.slice A n c, .int .i64 0]) ∧ ReadsC w' A n l ∧ Tab8 l n ∧ Only [] w w' := by
  refine (Make_any w 8 (by omega) (by omega)).mono ?_
  rintro e w1 ⟨v, rfl, hown, hbel⟩
  obtain ⟨A, c, rfl, hr, hA⟩ := own_reads rfl hown make8_I64
  exact ⟨A, _, c, makeC 8, rfl, hr, ⟨make8_cls.1, make8_cls.2.1, make8_cls.2.2, make8_table, make8_at.1, make8_table.2.1, make8_at.2.1, make8_at.2.2⟩, Only.of_below hbel⟩

set_option maxRecDepth 100000 in
set_option maxHeartbeats 4000000 in
theorem alive_any (w : World) : Grew Try.prog 14 #[] w (.bool true) := by
  have CO := fun W => Objects_any W ⟨24, 1, 21⟩
  have CT := fun W => Tail_any W ⟨24, 1, 21⟩
  simp only [if_pos make8_objs.1, make8_objs.2.1, make8_objs.2.2] at CO CT
  unfold Cl.val at CO CT
  have HO := Lib.hid CO
  have HT := Lib.hid CT
  clear CO CT
  go_enter Try.func14, Try.ntmps14
  go_wp2_with fail
  refine (Make8_any w).mono ?_
  rintro e w1 ⟨A, n, c, l, rfl, hr, h8, ho⟩
  have hn4 := h8.n4
  have hn70 := h8.n70
  have hs0 := Only.refl [] w1
  have K1 := Lib.hid (fun W (hoW : Only [] w1 W) => (by have := Class_any W A n c l (hr.still hoW) (by omega) 9 1; rwa [h8.c1] at this : Grew Try.prog 25 #[.slice A n c, .int .i64 9, .int .i64 1] W (.tuple #[.int .i64 1, .int .i64 0])))
  have K2 := Lib.hid (fun W (hoW : Only [] w1 W) => (by have := Class_any W A n c l (hr.still hoW) (by omega) 1 16; rwa [h8.c2] at this : Grew Try.prog 25 #[.slice A n c, .int .i64 1, .int .i64 16] W (.tuple #[.int .i64 1, .int .i64 0])))
  have K3 := Lib.hid (fun W (hoW : Only [] w1 W) => (by have := Class_any W A n c l (hr.still hoW) (by omega) 513 1; rwa [h8.c3] at this : Grew Try.prog 25 #[.slice A n c, .int .i64 513, .int .i64 1] W (.tuple #[.int .i64 0, .int .i64 4])))
  have K4 := Lib.hid (fun W (hoW : Only [] w1 W) => (by have := Valid_any W A n c l (hr.still hoW) (by omega); rwa [decide_eq_true h8.tab] at this : Grew Try.prog 18 #[.slice A n c] W (.bool true)))
  obtain ⟨ad, rfl, p0, p1, p2⟩ := hr.at_ (k := 0) (by omega)
  obtain ⟨_, e, q0, q1, q2⟩ := hr.at_ (k := 2) (by omega)
  injection e with e
  subst e
  rw [h8.a0] at p0 p1 p2
  rw [h8.a2] at q0 q1 q2
  have d0 : decide ((n : Int) < 4) = false := decide_eq_false (by omega)
  replace p0 : w1.cell? ad = some (.int .i64 8) := by simpa [Addr.add] using p0
  replace p1 : w1.cell? ({ block := ad.block, off := ad.off + 1 } : Addr) = some (.int .i64 1) := by simpa [Addr.add] using p1
  replace p2 : w1.cell? ({ block := ad.block, off := ad.off + 2 } : Addr) = some (.int .i64 32) := by simpa [Addr.add] using p2
  replace q0 : w1.cell? ({ block := ad.block, off := ad.off + 6 } : Addr) = some (.int .i64 24) := by simpa [Addr.add] using q0
  replace q1 : w1.cell? ({ block := ad.block, off := ad.off + 6 + 1 } : Addr) = some (.int .i64 1) := by simpa [Addr.add] using q1
  replace q2 : w1.cell? ({ block := ad.block, off := ad.off + 6 + 2 } : Addr) = some (.int .i64 21) := by simpa [Addr.add] using q2
  clear h8 hr
  go_wp2_with (first
    | (go_at_call 25; with_reducible refine Grew.use (K1.out _ hs0) (fun w2 ho2 => ?_))
    | (go_at_call 25; with_reducible refine Grew.use (K2.out _ ho2) (fun w3 ho3 => ?_); have hs3 := ho2.trans ho3)
    | (go_at_call 25; with_reducible refine Grew.use (K3.out _ hs3) (fun w4 ho4 => ?_); have hs4 := hs3.trans ho4)
    | (go_at_call 15; with_reducible refine Grew.use (HO.out _) (fun w5 ho5 => ?_); have hs5 := hs4.trans ho5)
    | (go_at_call 16; with_reducible refine Grew.use (HT.out _) (fun w6 ho6 => ?_); have hs6 := hs5.trans ho6; have P0 := cell_after p0 ⟨w6, hs6⟩; have P1 := cell_after p1 ⟨w6, hs6⟩; have P2 := cell_after p2 ⟨w6, hs6⟩; have Q0 := cell_after q0 ⟨w6, hs6⟩; have Q1 := cell_after q1 ⟨w6, hs6⟩; have Q2 := cell_after q2 ⟨w6, hs6⟩; clear p0 p1 p2 q0 q1 q2)
    | (go_at_call 18; with_reducible refine Grew.use (K4.out _ hs6) (fun w7 ho7 => ?_)))
  go_ret
  exact ⟨rfl, ho.trans (hs6.trans ho7)⟩
end Go.Proofs.Ytgicapdiiknbiaa
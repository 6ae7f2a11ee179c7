/- The walk of SizesDense. -/
import Derived.Test.YtgicapdiiknbiaaSzN
import Derived.Test.YtgicapdiiknbiaaGrew
set_option linter.unusedVariables false
set_option linter.unusedSimpArgs false
namespace Go.Proofs.Ytgicapdiiknbiaa
open Go.RowKit

set_option maxRecDepth 100000 in
set_option maxHeartbeats 4000000 in
theorem SizesDense_walk (w : World) (waste : Int) (_ : I64 waste) :
    Grew Try.prog 9 #[.int .i64 waste] w (.bool true) := by
  by_cases hw : 2 ≤ waste ∧ waste ≤ 16
  · go_enter Try.func9, Try.ntmps9
    go_wp2_with fail
    refine (Make_reads w waste hw.1 hw.2).mono ?_
    rintro e w1 ⟨A, n, c, rfl, hr, hg, ho1⟩
    have hn : n ≤ 40 := by have := hg.1.2.1; have := hr.1; omega
    have hn2 : 2 ≤ n := by have := hg.2.1; have := hr.1; omega
    obtain ⟨ad, rfl, _, _, _⟩ := hr.at_ (k := 0) (by omega)
    have HR := Lib.hid hr
    have HL := Lib.hid hr.1
    have HG := Lib.hid hg
    have H2 := Lib.hid (fun W (ho : Only [] w1 W) => (by have := rValid_any W (some ad) n c _ (hr.still ho) (by omega); rwa [decide_eq_true hg.1] at this : Grew Try.prog 19 #[.slice (some ad) n c] W (.bool true)))
    clear hr hg
    go_wp2_with fail
    go_loopw [5] (fun t wr => ∃ j : Nat, j + 1 ≤ n ∧ t = .int .i64 j ∧ Only [] w1 wr) (fun t _ => n - (intOf t).toNat)
    case atStart => exact ⟨0, by omega, rfl, Only.refl _ _⟩
    case round =>
      obtain ⟨k, hk, rfl, ho⟩ := hrel
      by_cases hlt : k + 1 < n
      · have e1 : decide ((k : Int) + 1 < n) = true := decide_eq_true (by omega)
        obtain ⟨_, e, p0, p1, p2⟩ := (HR.out.still ho).at_ (show k < n by omega)
        injection e with e
        subst e
        obtain ⟨_, e, q0, q1, q2⟩ := (HR.out.still ho).at_ hlt
        injection e with e
        subst e
        have hd := HG.out.2.2.2.2.2 k (by rw [HL.out]; omega)
        have hx := (HG.out.1.2.2 k (by rw [HL.out]; omega)).1
        have hy := (HG.out.1.2.2 (k + 1) (by rw [HL.out]; omega)).1
        generalize cAt (makeC waste) k = x at *
        generalize cAt (makeC waste) (k + 1) = y at *
        have CO := fun W => Objects_any W x
        have CT := fun W => Objects_any W y
        simp only [if_pos hx, if_pos hy] at CO CT
        unfold Cl.val at CO CT
        have HO := Lib.hid CO
        have HT := Lib.hid CT
        have hxn := (Cl.n_facts hx.small).2.2.2.2
        have hyn := (Cl.n_facts hy.small).2.2.2.2
        have hxp := hx.2.2.2
        have hyp := hy.2.2.2
        clear CO CT hx hy
        obtain ⟨s, p, b⟩ := x
        obtain ⟨s', p', b'⟩ := y
        generalize Cl.n ⟨s, p, b⟩ = x at *
        generalize Cl.n ⟨s', p', b'⟩ = y at *
        dsimp only at *
        go_wp2_with (first
          | (go_at_call 15; with_reducible refine Grew.use (HO.out _) (fun w2 ho2 => ?_); have P0 := cell_after p0 ⟨w2, ho2⟩; have P1 := cell_after p1 ⟨w2, ho2⟩; have Q0 := cell_after q0 ⟨w2, ho2⟩; have Q1 := cell_after q1 ⟨w2, ho2⟩; have Q2 := cell_after q2 ⟨w2, ho2⟩; clear p0 p1 p2 q0 q1 q2)
          | (go_at_call 15; with_reducible refine Grew.use (HT.out _) (fun w3 ho3 => ?_); have p1 := cell_after P1 ⟨w3, ho3⟩; have q1 := cell_after Q1 ⟨w3, ho3⟩; clear P0 P1 Q0 Q1 Q2))
        have hs3 := ho.trans (ho2.trans ho3)
        have r1 := cell_after p1
        have r2 := cell_after q1
        by_cases hp : p = p'
        · have f1 : (p == p') = true := beq_iff_eq.2 hp
          have f2 : decide (x ≤ y) = false := decide_eq_false (fun h => hd ⟨hp, h⟩)
          clear hd hp p1 q1
          refine wp_region_grew (by kernel_rfl) (by kernel_rfl) ?_
          repeat (go_big_quiet_step (fail))
          refine wpQuiet_nil ?_
          rintro _ ⟨⟨w4, ho4⟩, rfl⟩
          go_wp2_with fail
          go_roundw
          case rel => exact ⟨k + 1, by omega, by go_num, hs3.trans ho4⟩
          case measure => simp [intOf]; omega
        · have f1 : (p == p') = false := beq_eq_false_iff_ne.2 hp
          clear hd hp p1 q1
          refine wp_region_grew (by kernel_rfl) (by kernel_rfl) ?_
          repeat (go_big_quiet_step (fail))
          refine wpQuiet_nil ?_
          rintro _ ⟨⟨w4, ho4⟩, rfl⟩
          go_wp2_with fail
          go_roundw
          case rel => exact ⟨k + 1, by omega, by go_num, hs3.trans ho4⟩
          case measure => simp [intOf]; omega
      · have e1 : decide ((k : Int) + 1 < n) = false := decide_eq_false (by omega)
        go_wp2_with (first
          | (go_at_call 19; with_reducible refine Grew.use (H2.out _ ho) (fun w3 ho3 => ?_))
          | (go_at_call 14; with_reducible refine Grew.use (alive_any _) (fun w5 ho5 => ?_)))
        go_ret
        exact ⟨rfl, ho1.trans (ho.trans (ho3.trans ho5))⟩
  · have H := Lib.hid (Make_bad w waste (by omega))
    go_enter Try.func9, Try.ntmps9
    go_wp2_with (first | (go_at_call 22; with_reducible refine Grew.use H.out (fun w1 ho1 => ?_)) | (go_at_call 14; with_reducible refine Grew.use (alive_any _) (fun w5 ho5 => ?_)))
    go_ret
    exact ⟨rfl, ho1.trans ho5⟩
end Go.Proofs.Ytgicapdiiknbiaa

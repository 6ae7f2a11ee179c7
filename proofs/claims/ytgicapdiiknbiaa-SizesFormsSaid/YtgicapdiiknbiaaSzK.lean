/- The walk of SizesForms. -/
import Derived.Test.YtgicapdiiknbiaaSzJ
set_option linter.unusedVariables false
set_option linter.unusedSimpArgs false
namespace Go.Proofs.Ytgicapdiiknbiaa
open Go.RowKit

set_option maxRecDepth 100000 in
set_option maxHeartbeats 4000000 in
theorem SizesForms_walk (w : World) (A : Option Addr) (n c : Nat) (l : List Cl) (hr : ReadsC w A n l) (hn : n ≤ 9223372036854775807) (s p b : Int) (_ : I64 s) (_ : I64 p) (_ : I64 b) :
    Grew Try.prog 3 #[.slice A n c, .agg #[.int .i64 s, .int .i64 p, .int .i64 b]] w (.bool true) := by
  have ho0 := (Only.refl [] w).alloc (.cells #[.int .i64 s, .int .i64 p, .int .i64 b] 24)
  have bX := Blk.new w 24 #[.int .i64 s, .int .i64 p, .int .i64 b]
  have HR := Lib.hid (hr.still ho0)
  clear hr
  by_cases hg : 200 < n
  · have d0 : decide (200 < (n : Int)) = true := decide_eq_true (by omega)
    go_enter Try.func3, Try.ntmps3
    go_wp2_with (first | (go_at_call 14; refine Grew.use (alive_any _) (fun w1 ho1 => ?_)))
    go_ret
    exact ⟨rfl, ho0.trans ho1⟩
  · have d0 : decide (200 < (n : Int)) = false := decide_eq_false (by omega)
    by_cases hok : Cl.ok ⟨s, p, b⟩
    · have CO := fun W => Objects_any W ⟨s, p, b⟩
      have CT := fun W => Tail_any W ⟨s, p, b⟩
      have CR := fun W => right_any W ⟨s, p, b⟩
      have CRO := fun W => robj_any W ⟨s, p, b⟩ hok.small
      have CRT := fun W => rtail_any W ⟨s, p, b⟩ hok.small
      simp only [if_pos hok, decide_eq_true hok] at CO CT CR
      unfold Cl.val at CO CT CR CRO CRT
      dsimp only at CO CT CR CRO CRT
      have HO := Lib.hid CO
      have HT := Lib.hid CT
      have HG := Lib.hid CR
      have HRO := Lib.hid CRO
      have HRT := Lib.hid CRT
      clear CO CT CR CRO CRT
      generalize Cl.n ⟨s, p, b⟩ = x at *
      generalize Cl.t ⟨s, p, b⟩ = y at *
      generalize hz : (w.alloc (.cells #[.int .i64 s, .int .i64 p, .int .i64 b] 24)) = w0 at *
      have HV := Lib.hid (fun W (hoW : Only [] w0 W) => Valid_any W A n c l (HR.out.still hoW) hn)
      have HV2 := Lib.hid (fun W (hoW : Only [] w0 W) => rValid_any W A n c l (HR.out.still hoW) hn)
      have z0 := bX.cell_ 0 rfl
      have z1 := bX.cell_ 1 rfl
      have z2 := bX.cell_ 2 rfl
      go_enter Try.func3, Try.ntmps3
      go_wp2_with (first
        | (go_at_call 15; with_reducible refine Grew.use (HO.out _) (fun w1 ho1 => ?_); have u0 := cell_after z0 ⟨w1, ho1⟩; have u1 := cell_after z1 ⟨w1, ho1⟩; have u2 := cell_after z2 ⟨w1, ho1⟩; clear z0 z1 z2) | (go_at_call 16; with_reducible refine Grew.use (HT.out _) (fun w2 ho2 => ?_); have v0 := cell_after u0 ⟨w2, ho2⟩; have v1 := cell_after u1 ⟨w2, ho2⟩; have v2 := cell_after u2 ⟨w2, ho2⟩; clear u0 u1 u2) | (go_at_call 17; with_reducible refine Grew.use (HG.out _) (fun w3 ho3 => ?_); have z0 := cell_after v0 ⟨w3, ho3⟩; have z1 := cell_after v1 ⟨w3, ho3⟩; have z2 := cell_after v2 ⟨w3, ho3⟩; clear v0 v1 v2)
        | (go_at_call 20; with_reducible refine Grew.use (HRO.out _) (fun w4 ho4 => ?_); have u0 := cell_after z0 ⟨w4, ho4⟩; have u1 := cell_after z1 ⟨w4, ho4⟩; have u2 := cell_after z2 ⟨w4, ho4⟩; clear z0 z1 z2)
        | (go_at_call 21; with_reducible refine Grew.use (HRT.out _) (fun w5 ho5 => ?_); have hs5 := ho1.trans (ho2.trans (ho3.trans (ho4.trans ho5))))
        | (go_at_call 18; with_reducible refine Grew.use (HV.out _ hs5) (fun w6 ho6 => ?_); have hs6 := hs5.trans ho6)
        | (go_at_call 19; with_reducible refine Grew.use (HV2.out _ hs6) (fun w7 ho7 => ?_))
        | (go_at_call 14; with_reducible refine Grew.use (alive_any _) (fun w8 ho8 => ?_)))
      go_ret
      exact ⟨rfl, ho0.trans (hs6.trans (ho7.trans ho8))⟩
    · have CO := fun W => Objects_any W ⟨s, p, b⟩
      have CT := fun W => Tail_any W ⟨s, p, b⟩
      have CR := fun W => right_any W ⟨s, p, b⟩
      simp only [if_neg hok, decide_eq_false hok] at CO CT CR
      unfold Cl.val at CO CT CR
      dsimp only at CO CT CR
      have HO := Lib.hid CO
      have HT := Lib.hid CT
      have HG := Lib.hid CR
      clear CO CT CR
      generalize hz : (w.alloc (.cells #[.int .i64 s, .int .i64 p, .int .i64 b] 24)) = w0 at *
      have HV := Lib.hid (fun W (hoW : Only [] w0 W) => Valid_any W A n c l (HR.out.still hoW) hn)
      have HV2 := Lib.hid (fun W (hoW : Only [] w0 W) => rValid_any W A n c l (HR.out.still hoW) hn)
      have z0 := bX.cell_ 0 rfl
      have z1 := bX.cell_ 1 rfl
      have z2 := bX.cell_ 2 rfl
      go_enter Try.func3, Try.ntmps3
      go_wp2_with (first
        | (go_at_call 15; with_reducible refine Grew.use (HO.out _) (fun w1 ho1 => ?_); have u0 := cell_after z0 ⟨w1, ho1⟩; have u1 := cell_after z1 ⟨w1, ho1⟩; have u2 := cell_after z2 ⟨w1, ho1⟩; clear z0 z1 z2) | (go_at_call 16; with_reducible refine Grew.use (HT.out _) (fun w2 ho2 => ?_); have v0 := cell_after u0 ⟨w2, ho2⟩; have v1 := cell_after u1 ⟨w2, ho2⟩; have v2 := cell_after u2 ⟨w2, ho2⟩; clear u0 u1 u2) | (go_at_call 17; with_reducible refine Grew.use (HG.out _) (fun w3 ho3 => ?_); have hs5 := ho1.trans (ho2.trans ho3))
        | (go_at_call 18; with_reducible refine Grew.use (HV.out _ hs5) (fun w6 ho6 => ?_); have hs6 := hs5.trans ho6)
        | (go_at_call 19; with_reducible refine Grew.use (HV2.out _ hs6) (fun w7 ho7 => ?_))
        | (go_at_call 14; with_reducible refine Grew.use (alive_any _) (fun w8 ho8 => ?_)))
      go_ret
      exact ⟨rfl, ho0.trans (hs6.trans (ho7.trans ho8))⟩
end Go.Proofs.Ytgicapdiiknbiaa

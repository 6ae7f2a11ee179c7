/- The calls of the space's laws, out of an argument; the package's variables. -/
import Derived.Test.YtmalmkccgjeboaaDoorRow
import Derived.Test.YtmalmkccgjeboaaDoorVM
import Derived.LaidMore
import Derived.Stop.Joined
set_option linter.unusedVariables false
set_option linter.unusedSimpArgs false
namespace Go.Proofs.YtmalmkccgjeboaaDoor
open Go.RowKit
open Go.ChangeShapes Go.WideShapes Go.ChangeAt Go.WideMaps Go.WideElems

section
open Go.Joins Go.Deep
variable {H : Type} {enc : TypeId × Value → H} {P : Program} {w : World} {base : Nat} {spare : Nat → Bool} {held : Bool}
theorem open_int4 {r : Reach} {b0 : Nat} {t : TypeId} {f0 f1 f2 f3 : Field} {v : Value} {d : DataW H} {p : List MemPlace} (hs : P.underlying t = some (.struct #[f0, f1, f2, f3])) (hone : oneCellFields P #[f0, f1, f2, f3] = true) (hC : P.cellsOf t = 4)
    (k0 : P.underlying f0.type = some (.int .i64)) (k1 : P.underlying f1.type = some (.int .i64)) (k2 : P.underlying f2.type = some (.int .i64)) (k3 : P.underlying f3.type = some (.int .i64))
    (hv : Value.okWide P w r b0 t v) (h : DataW.Trod enc P w base spare held t v d p) :
    ∃ x0 x1 x2 x3 : Int, v = .agg #[.int .i64 x0, .int .i64 x1, .int .i64 x2, .int .i64 x3] ∧ I64 x0 ∧ I64 x1 ∧ I64 x2 ∧ I64 x3 := by
  obtain ⟨v0, v1, v2, v3, y0, y1, y2, y3, n, rfl, _, _, h0, h1, h2, h3⟩ := open_agg4 hs hone hC hv h
  obtain ⟨x0, e0, _, w0⟩ := DataW.trod_int k0 h0
  obtain ⟨x1, e1, _, w1⟩ := DataW.trod_int k1 h1
  obtain ⟨x2, e2, _, w2⟩ := DataW.trod_int k2 h2
  obtain ⟨x3, e3, _, w3⟩ := DataW.trod_int k3 h3
  injection e0 with e0
  injection e1 with e1
  injection e2 with e2
  injection e3 with e3
  subst e0 e1 e2 e3
  exact ⟨x0, x1, x2, x3, rfl, bounds_i64 w0, bounds_i64 w1, bounds_i64 w2, bounds_i64 w3⟩
end

theorem gU : Tryd.prog.globalNamed "freehold/space.unmapped" = some 0 := by kernel_rfl
theorem gC : Tryd.prog.globalNamed "freehold/space.clean" = some 1 := by kernel_rfl
theorem gD : Tryd.prog.globalNamed "freehold/space.dirty" = some 2 := by kernel_rfl
theorem tU : (Tryd.prog.globals[0]?).map (·.type) = some 70 := by kernel_rfl
theorem tC : (Tryd.prog.globals[1]?).map (·.type) = some 70 := by kernel_rfl
theorem tD : (Tryd.prog.globals[2]?).map (·.type) = some 70 := by kernel_rfl
def laid3 {H : Type} : List (String × DataW H) := [("freehold/space.unmapped", Rows.laid_freehold_space_unmapped), ("freehold/space.clean", Rows.laid_freehold_space_clean), ("freehold/space.dirty", Rows.laid_freehold_space_dirty)]

theorem door_met (os : Os) (args : Array Value) : laidMetH Tryd.prog laid3 ((World.doorLaid Tryd.prog 400 os).forCall (fun _ _ => 0) ⟨#[], args, []⟩).memory :=
  laidMetH_of_parts3 (fuel := 8) (laidMet_of_run' 8 (by kernel_rfl) (by kernel_rfl)) (by kernel_rfl) (by kernel_rfl)

section
variable {H : Type} {enc : TypeId × Value → H} {P : Program} {w : World} {base : Nat} {spare : Nat → Bool} {held : Bool}
/-- A struct of two bools, out of what it reads as. -/
theorem two_bools {fuel : Nat} {t : TypeId} {f0 f1 : Field} {cs : Array Value} {a b : Bool} {q : List MemPlace} (hs : P.underlying t = some (.struct #[f0, f1])) (hone : Go.Deep.oneCellFields P #[f0, f1] = true) (hC : P.cellsOf t = 2)
    (k0 : P.underlying f0.type = some .bool) (k1 : P.underlying f1.type = some .bool) (h : DataW.trod enc P w base spare held fuel t cs.toList = some (.agg [.lit (.bool a), .lit (.bool b)], q)) : cs[0]? = some (.bool a) ∧ cs[1]? = some (.bool b) := by
  obtain ⟨y0, y1, n, hx, hl, t0, t1⟩ := trod_struct2 hs h
  obtain ⟨o0, c0⟩ := Go.Deep.hone_of hone 0 f0 rfl
  obtain ⟨o1, c1⟩ := Go.Deep.hone_of hone 1 f1 rfl
  rw [o0, c0] at t0
  rw [o1, c1] at t1
  obtain ⟨x0, e0, r0⟩ := DataW.trod_bool k0 t0
  obtain ⟨x1, e1, r1⟩ := DataW.trod_bool k1 t1
  rw [hC] at hl
  obtain ⟨l⟩ := cs
  match l, hl with
  | [v0, v1], _ =>
    simp only [Prod.mk.injEq, DataW.agg.injEq, List.cons.injEq] at hx
    obtain ⟨⟨h0, h1, _⟩, _⟩ := hx
    rw [r0] at h0
    rw [r1] at h1
    simp at h0 h1 e0 e1
    subst h0 h1 e0 e1
    exact ⟨rfl, rfl⟩
end

theorem of_laid {W : World} (h : laidMetH Tryd.prog laid3 W) : Env W := by
  rw [MakeChecks.laidMetH_plain _ _ _ (by kernel_rfl)] at h
  obtain ⟨ps, ⟨g0, t0, cs0, f0, p0, q0, hg0, ht0, hv0, hd0, ⟨g1, t1, cs1, f1, p1, q1, hg1, ht1, hv1, hd1, ⟨g2, t2, cs2, f2, p2, q2, hg2, ht2, hv2, hd2, _, _⟩, _⟩, _⟩, _, _⟩ := h
  obtain rfl := Option.some.inj (gU.symm.trans hg0)
  obtain rfl := Option.some.inj (gC.symm.trans hg1)
  obtain rfl := Option.some.inj (gD.symm.trans hg2)
  obtain rfl := Option.some.inj (tU.symm.trans ht0)
  obtain rfl := Option.some.inj (tC.symm.trans ht1)
  obtain rfl := Option.some.inj (tD.symm.trans ht2)
  obtain ⟨a0, a1⟩ := two_bools (a := false) (b := false) Tryd.underlying70 (by kernel_rfl) (by kernel_rfl) Tryd.underlying4 Tryd.underlying4 hd0
  obtain ⟨b0, b1⟩ := two_bools (a := true) (b := false) Tryd.underlying70 (by kernel_rfl) (by kernel_rfl) Tryd.underlying4 Tryd.underlying4 hd1
  obtain ⟨d0, d1⟩ := two_bools (a := true) (b := true) Tryd.underlying70 (by kernel_rfl) (by kernel_rfl) Tryd.underlying4 Tryd.underlying4 hd2
  exact ⟨(World.var?_cell hg0 hv0 0).trans a0, (World.var?_cell hg0 hv0 1).trans a1, (World.var?_cell hg1 hv1 0).trans b0, (World.var?_cell hg1 hv1 1).trans b1, (World.var?_cell hg2 hv2 0).trans d0, (World.var?_cell hg2 hv2 1).trans d1⟩

theorem ReadsA.of_rows {w : World} {A : Option Addr} {n : Nat} {F : Nat → Nat → Int} (hF : ∀ i j, I64 (F i j))
    (h : 0 < n → ∃ ad, A = some ad ∧ ∀ i, i < n → w.cell? (ad.add (i * 4)) = some (.int .i64 (F i 0)) ∧ ∀ j, j + 1 < 4 → w.cell? ⟨(ad.add (i * 4)).block, (ad.add (i * 4)).off + (j + 1), Option.none⟩ = some (.int .i64 (F i (j + 1)))) :
    ReadsA w A n ((List.range n).map fun i => ⟨F i 0, F i 1, F i 2, F i 3⟩) := by
  have hg : ∀ j, j < n → vAt ((List.range n).map fun i => (⟨F i 0, F i 1, F i 2, F i 3⟩ : Ac)) j = ⟨F j 0, F j 1, F j 2, F j 3⟩ := fun j hj => by
    simp [vAt, List.getD_eq_getElem?_getD, List.getElem?_map, List.getElem?_range hj]
  refine ⟨by simp, fun j hj => ?_, fun h0 => ?_⟩
  · rw [hg j hj]
    exact ⟨hF _ _, hF _ _, hF _ _, hF _ _⟩
  · obtain ⟨ad, rfl, hc⟩ := h h0
    refine ⟨ad, rfl, fun j hj => ?_⟩
    obtain ⟨c1, c2⟩ := hc j hj
    rw [hg j hj]
    exact ⟨c1, c2 0 (by omega), c2 1 (by omega), c2 2 (by omega)⟩
end Go.Proofs.YtmalmkccgjeboaaDoor

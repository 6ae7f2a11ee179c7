/- The walks of SpaceRefuses and SpaceClones. -/
import Derived.Test.YtmalmkccgjeboaaDoorVT
set_option linter.unusedVariables false
set_option linter.unusedSimpArgs false
namespace Go.Proofs.YtmalmkccgjeboaaDoor
open Go.RowKit

set_option maxRecDepth 100000 in
set_option maxHeartbeats 2000000 in
theorem SpaceRefuses_walk (w : World) (hE : Env w) (pages : Int) (hp : 0 ≤ pages ∧ pages ≤ 255) (A : Option Addr) (n c : Nat) (l : List Ac) (hr : ReadsA w A n l) (hn : n ≤ 9223372036854775807) (xk xa xb xc : Int) (h1 : I64 xk) (h2 : I64 xa) (h3 : I64 xb) (h4 : I64 xc) :
    Grew Tryd.prog 7 #[.int .u8 pages, .slice A n c, .agg #[.int .i64 xk, .int .i64 xa, .int .i64 xb, .int .i64 xc]] w (.bool true) := by
  have ho0 := (Only.refl [] w).alloc (.cells #[.int .i64 xk, .int .i64 xa, .int .i64 xb, .int .i64 xc] 30)
  have bX := Blk.new w 30 #[.int .i64 xk, .int .i64 xa, .int .i64 xb, .int .i64 xc]
  have HE := Lib.hid (hE.only ho0 (by simp))
  have CG := Lib.hid (fun W => great_any W A n c hn)
  have CM := Lib.hid (lmade_any HE.out pages hp A n c l (hr.still ho0) hn)
  have hsz0 : w.heap.size < (w.alloc (.cells #[.int .i64 xk, .int .i64 xa, .int .i64 xb, .int .i64 xc] 30)).heap.size := by simp
  clear hr hE
  by_cases hg : 40 < n
  · rw [decide_eq_true hg] at CG
    go_enter Tryd.func7, Tryd.ntmps7
    go_wp2_with (first | (go_at_call 13; with_reducible refine Still.use (CG.out _) ?_) | (go_at_call 14; with_reducible refine Grew.use (alive_any _ HE.out) (fun w5 ho5 => ?_)))
    go_ret
    exact ⟨rfl, ho0.trans ho5⟩
  rw [decide_eq_false hg] at CG
  go_enter Tryd.func7, Tryd.ntmps7
  go_wp2_with (first | (go_at_call 13; with_reducible refine Still.use (CG.out _) ?_))
  refine CM.out.mono ?_
  generalize w.alloc (.cells #[.int .i64 xk, .int .i64 xa, .int .i64 xb, .int .i64 xc] 30) = w0 at *
  rintro e w1 ⟨ho1, p, L, rfl, hs, hL⟩
  generalize (SpM.fresh (pages % 64 + 1).toNat).acts l n = m at *
  go_wp2_with fail
  refine (Clone_any hs).mono ?_
  rintro e w2 ⟨ho2, p', L', rfl, ht, hL'⟩
  have hs2 := hs.still ho2
  have bX2 := (bX.only ho1 (by simp)).only ho2 (by simp)
  have x0 := bX2.cell_ 0 rfl
  have x1 := bX2.cell_ 1 rfl
  have x2 := bX2.cell_ 2 rfl
  have x3 := bX2.cell_ 3 rfl
  have HE2 := HE.out.only (ho1.trans ho2) (by simp)
  have hdis : ∀ b ∈ L', b ∉ L := fun b hb hb2 => by have := hL' b hb; have := hs.lt b hb2; omega
  clear CM hs
  go_wp2_with fail
  refine (do_any HE2 hs2 ⟨xk, xa, xb, xc⟩ ⟨h1, h2, h3, h4⟩).mono ?_
  rintro e w3 ⟨rfl, hT⟩
  have ht3 := ht.only hT.1 hdis
  obtain ⟨ho3, L3, hs3, hL3⟩ := Turn.new (ho1.trans ho2) hL hT
  have HE3 := Lib.hid (HE.out.only ho3 (by simp))
  by_cases h0 : m.actE ⟨xk, xa, xb, xc⟩ = 0
  · rw [h0]
    go_wp2_with (first | (go_at_call 14; with_reducible refine Grew.use (alive_any _ HE3.out) (fun w5 ho5 => ?_)))
    go_ret
    exact ⟨rfl, ho0.trans (ho3.trans ho5)⟩
  · rw [SpM.act_err h0] at hs3
    have CA := Lib.hid (alike_any HE3.out hs3 ht3)
    have d0 : (m.actE ⟨xk, xa, xb, xc⟩ == 0) = false := beq_eq_false_iff_ne.2 h0
    generalize m.actE ⟨xk, xa, xb, xc⟩ = ee at *
    clear hT hs3 ht3 h0
    go_wp2_with (first | (go_at_call 30; with_reducible refine Grew.use CA.out (fun w4 ho4 => ?_)) | (go_at_call 14; with_reducible refine Grew.use (alive_any _ (HE3.out.only ho4 (by simp))) (fun w5 ho5 => ?_)))
    go_ret
    exact ⟨rfl, ho0.trans (ho3.trans (ho4.trans ho5))⟩
end Go.Proofs.YtmalmkccgjeboaaDoor

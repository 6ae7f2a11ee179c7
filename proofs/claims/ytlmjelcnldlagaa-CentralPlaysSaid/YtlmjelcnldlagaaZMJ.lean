/- CentralNone, walked. -/
import Derived.Test.YtlmjelcnldlagaaZMI
set_option linter.unusedVariables false
set_option linter.unusedSimpArgs false
namespace Go.Proofs.Ytlmjelcnldlagaa
open Go.RowKit

set_option maxRecDepth 100000 in
set_option maxHeartbeats 8000000 in
theorem CentralNone_walk (w : World) (x : Ac7) (hx : x.okAt w) : Grew Try.prog 11 #[x.val] w (.bool true) := by
  have oB := ((Only.refl [] w).alloc (.cells #[.int .i64 x.k, .int .i64 x.a, .slice x.B x.n x.cap] 47)).alloc (.cells #[.int .i64 x.k, .int .i64 x.a, .slice x.B x.n x.cap] 47)
  have bX := (Blk.new w 47 #[.int .i64 x.k, .int .i64 x.a, .slice x.B x.n x.cap]).alloc (.cells #[.int .i64 x.k, .int .i64 x.a, .slice x.B x.n x.cap] 47)
  have hrd : ReadsA ((w.alloc (.cells #[.int .i64 x.k, .int .i64 x.a, .slice x.B x.n x.cap] 47)).alloc (.cells #[.int .i64 x.k, .int .i64 x.a, .slice x.B x.n x.cap] 47)) (some ⟨w.heap.size + 1, 0, none⟩) 1 [x] := by
    have := reads_one (w.alloc (.cells #[.int .i64 x.k, .int .i64 x.a, .slice x.B x.n x.cap] 47)) x (hx.still ((Only.refl [] w).alloc _))
    simpa using this
  have CG := Lib.hid (great_any _ (some ⟨w.heap.size + 1, 0, none⟩) 1 1 [x] hrd (by omega))
  have HOB := Lib.hid oB
  have HBX := Lib.hid bX
  have CP1 := Lib.hid (fun W v (h : LUn W v) => lplay_un h x)
  clear hrd
  cases hg : greatOf [x] with
  | true =>
    rw [hg] at CG
    unfold Ac7.val
    clear oB bX hg hx
    go_enter Try.func11, Try.ntmps11
    go_wp2_with (first | (go_at_call 13; with_reducible refine Still.use CG.out ?_) | (go_at_call 14; with_reducible refine Grew.use (alive_any _) (fun w5 ho5 => ?_)))
    go_ret
    exact ⟨rfl, HOB.out.trans ho5⟩
  | false =>
    rw [hg] at CG
    unfold Ac7.val at CP1 ⊢
    clear oB bX hg hx
    go_enter Try.func11, Try.ntmps11
    go_wp2_with (go_at_call 13; with_reducible refine Still.use CG.out ?_; generalize (w.alloc (.cells #[.int .i64 x.k, .int .i64 x.a, .slice x.B x.n x.cap] 47)).alloc (.cells #[.int .i64 x.k, .int .i64 x.a, .slice x.B x.n x.cap] 47) = w0 at *; have b1 := HBX.out.alloc (.cells #[.int .i64 0, .int .i64 0, .int .i64 0, .slice none 0 0] 68); have y0 := b1.cell_ 0 rfl; have y1 := b1.cell_ 1 rfl; have y2 := b1.cell_ 2 rfl)
    have bz := Blk.new w0 68 #[.int .i64 0, .int .i64 0, .int .i64 0, .slice none 0 0]
    have o1 := HOB.out.alloc (.cells #[.int .i64 0, .int .i64 0, .int .i64 0, .slice none 0 0] 68)
    generalize w0.alloc (.cells #[.int .i64 0, .int .i64 0, .int .i64 0, .slice none 0 0] 68) = w1 at *
    generalize w0.heap.size = pz at *
    have uz : LUn w1 (.pointer (some ⟨pz, 0, none⟩)) := .inr ⟨_, rfl, bz⟩
    have HB1 := Lib.hid b1
    have HUZ := Lib.hid uz
    clear b1 uz bz HBX HOB y0 y1 y2
    with_reducible refine Grew.use (CP1.out _ _ (lun_nil _)) (fun w2 ho2 => ?_)
    have b2 := HB1.out.only ho2 (by simp)
    have y0 := b2.cell_ 0 rfl
    have y1 := b2.cell_ 1 rfl
    have y2 := b2.cell_ 2 rfl
    have HU2 := Lib.hid (HUZ.out.grew ho2)
    clear b2
    go_wp2_with fail
    with_reducible refine Grew.use (CP1.out _ _ HU2.out) (fun w3 ho3 => ?_)
    have HU3 := Lib.hid (HU2.out.grew ho3)
    clear y0 y1 y2
    go_wp2_with fail
    with_reducible refine Grew.use (lSame_un (lun_nil _)) (fun w4 ho4 => ?_)
    have HU4 := Lib.hid (HU3.out.grew ho4)
    go_wp2_with fail
    with_reducible refine Grew.use (lSame_un HU4.out) (fun w5 ho5 => ?_)
    have HU5 := Lib.hid (HU4.out.grew ho5)
    go_wp2_with fail
    with_reducible refine Still.use (lClone_un (lun_nil _)) ?_
    go_wp2_with fail
    with_reducible refine Still.use (lClone_un HU5.out) ?_
    go_wp2_with (first | (go_at_call 14; with_reducible refine Grew.use (alive_any _) (fun w6 ho6 => ?_)))
    go_ret
    exact ⟨rfl, (((o1.trans ho2).trans ho3).trans ho4).trans (ho5.trans ho6)⟩
end Go.Proofs.Ytlmjelcnldlagaa

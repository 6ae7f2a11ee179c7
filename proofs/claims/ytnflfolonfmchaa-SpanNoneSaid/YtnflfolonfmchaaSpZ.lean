/- SpanNone, walked. -/
import Derived.Test.YtnflfolonfmchaaSpU
set_option linter.unusedVariables false
set_option linter.unusedSimpArgs false
namespace Go.Proofs.Ytnflfolonfmchaa
open Go.RowKit

set_option maxRecDepth 100000 in
set_option maxHeartbeats 4000000 in
theorem SpanNone_walk (w : World) (k a : Int) (_ : I64 k) (ha : I64 a) : Grew Try.prog 9 #[.agg #[.int .i64 k, .int .i64 a]] w (.bool true) := by
  have b := (Blk.new w 37 #[.int .i64 k, .int .i64 a]).alloc (.cells #[.int .i64 0, .int .i64 0, .int .i64 0, .int .i64 0, .slice none 0 0, .int .i64 0] 63)
  have bz := Blk.new2 w (.cells #[.int .i64 k, .int .i64 a] 37) 63 #[.int .i64 0, .int .i64 0, .int .i64 0, .int .i64 0, .slice none 0 0, .int .i64 0]
  have ho0 := ((Only.refl [] w).alloc (.cells #[.int .i64 k, .int .i64 a] 37)).alloc (.cells #[.int .i64 0, .int .i64 0, .int .i64 0, .int .i64 0, .slice none 0 0, .int .i64 0] 63)
  go_enter Try.func9, Try.ntmps9
  go_wp2_with fail
  generalize (w.alloc (.cells #[.int .i64 k, .int .i64 a] 37)).alloc (.cells #[.int .i64 0, .int .i64 0, .int .i64 0, .int .i64 0, .slice none 0 0, .int .i64 0] 63) = w0 at *
  have uz : Unmade w0 (.pointer (some ⟨w.heap.size + 1, 0, none⟩)) := .inr ⟨_, rfl, bz⟩
  refine Grew.use (play_un (unmade_nil _) k a) (fun w1 ho1 => ?_)
  have b1 := b.only ho1 (by simp)
  have c0 := b1.cell_ 0 rfl
  have c1 := b1.cell_ 1 rfl
  have u1 := uz.grew ho1
  go_wp2_with fail
  refine Grew.use (play_un u1 k a) (fun w2 ho2 => ?_)
  have u2 := u1.grew ho2
  clear c0 c1
  go_wp2_with fail
  refine Grew.use (Same_un (unmade_nil _)) (fun w3 ho3 => ?_)
  have u3 := u2.grew ho3
  go_wp2_with fail
  refine Grew.use (Same_un u3) (fun w4 ho4 => ?_)
  have u4 := u3.grew ho4
  go_wp2_with fail
  refine Still.use (Clone_un (unmade_nil _)) ?_
  go_wp2_with fail
  refine Still.use (Clone_un u4) ?_
  go_wp2_with (first | (go_at_call 11; refine Grew.use (alive_any w4) (fun w5 ho5 => ?_)))
  go_ret
  exact ⟨rfl, (((ho0.trans ho1).trans ho2).trans ho3).trans (ho4.trans ho5)⟩
end Go.Proofs.Ytnflfolonfmchaa

/- Contracts of the span's methods that make memory or write. -/
import Derived.Test.YtlmjelcnldlagaaSpB
set_option linter.unusedVariables false
set_option linter.unusedSimpArgs false
namespace Go.Proofs.Ytlmjelcnldlagaa
open Go.RowKit

set_option maxHeartbeats 400000 in
theorem Run_at {w p q cap s} (h : SpanAt w p q cap s) : Grew Try.prog 38 #[.pointer (some ⟨p, 0, none⟩)] w (.agg #[.int .i64 s.start, .int .i64 s.pages]) := by
  go_enter Try.func38, Try.ntmps38
  go_wp2_with (first | (go_at_call 68; refine Still.use (made_at (h.alloc _)) ?_))
  have hn := Blk.new w 37 #[.int .i64 0, .int .i64 0]
  have ho := (Only.refl [] w).alloc (.cells #[.int .i64 0, .int .i64 0] 37)
  have h' := h.alloc (.cells #[.int .i64 0, .int .i64 0] 37)
  generalize w.alloc (.cells #[.int .i64 0, .int .i64 0] 37) = w1 at *
  have f0 := h'.c0
  have f2 := h'.c2
  have n0 := hn.cell_ 0 rfl
  have n1 := hn.cell_ 1 rfl
  have z0 := hn.frozen 0
  have z1 := hn.frozen 1
  go_region
  have hn2 := ((hn.set_ 0 (.int .i64 s.start)).set_ 1 (.int .i64 s.pages)).drew
  have ho2 := ((ho.setCell (p := ⟨w.heap.size, 0, none⟩) (.inr (Nat.le_refl _)) (.int .i64 s.start)).setCell (p := ⟨w.heap.size, 1, none⟩) (.inr (Nat.le_refl _)) (.int .i64 s.pages)).drew
  generalize ((w1.setCell ⟨w.heap.size, 0, none⟩ (.int .i64 s.start)).setCell ⟨w.heap.size, 1, none⟩ (.int .i64 s.pages)).drew = w2 at *
  have r0 := hn2.cell_ 0 rfl
  have r1 := hn2.cell_ 1 rfl
  clear f0 f2 n0 n1 z0 z1
  go_wp2
  exact bodyPost_ret (v := .agg #[.int .i64 s.start, .int .i64 s.pages]) (by simp [results, Try.results38, go_sem, r0, r1]) rfl ⟨rfl, ho2⟩


end Go.Proofs.Ytlmjelcnldlagaa

/- Contracts of sizes.one, objects, Objects and span.New. -/
import Derived.Test.YtlmjelcnldlagaaSpF
set_option linter.unusedVariables false
set_option linter.unusedSimpArgs false
namespace Go.Proofs.Ytlmjelcnldlagaa
open Go.RowKit

def oneP (size pages batch : Int) : Prop := 8 ≤ size ∧ size ≤ 512 ∧ size % 8 = 0 ∧ 1 ≤ pages ∧ pages ≤ 4 ∧ size ≤ pages * 256 ∧ 1 ≤ batch ∧ batch ≤ 32
instance (size pages batch : Int) : Decidable (oneP size pages batch) := by unfold oneP; infer_instance

set_option maxHeartbeats 800000 in
theorem one_any (w : World) (size pages batch : Int) : Grew Try.prog 79 #[.agg #[.int .i64 size, .int .i64 pages, .int .i64 batch]] w (.bool (decide (oneP size pages batch))) := by
  go_enter Try.func79, Try.ntmps79
  go_wp2
  all_goals
    go_ret
    refine ⟨?_, (Only.refl [] w).alloc _⟩
    show Ending.returned (Value.bool _) = _
    refine ret_bool ?_
    first
      | (symm; rw [decide_eq_false_iff_not]; unfold oneP; omega)
      | (rw [decide_eq_decide]; unfold oneP; omega)

set_option maxHeartbeats 800000 in
theorem objects_any (w : World) (size pages batch : Int) (h : oneP size pages batch) : Grew Try.prog 80 #[.agg #[.int .i64 size, .int .i64 pages, .int .i64 batch]] w (.int .i64 (pages * 256 / size)) := by
  obtain ⟨h1, h2, h3, h4, h5, h6, h7, h8⟩ := h
  clear h3
  have hs0 : (size == 0) = false := beq_eq_false_iff_ne.2 (by omega)
  go_enter Try.func80, Try.ntmps80
  go_wp2
  go_ret
  exact ⟨rfl, (Only.refl [] w).alloc _⟩

set_option maxHeartbeats 800000 in
theorem Objects_any (w : World) (size pages batch : Int) : Grew Try.prog 53 #[.agg #[.int .i64 size, .int .i64 pages, .int .i64 batch]] w (.tuple #[.int .i64 (if oneP size pages batch then pages * 256 / size else 0), .int .i64 (if oneP size pages batch then 0 else 1)]) := by
  by_cases hone : oneP size pages batch
  · rw [if_pos hone, if_pos hone]
    have C := one_any (w.alloc (.cells #[.int .i64 size, .int .i64 pages, .int .i64 batch] 23)) size pages batch
    rw [decide_eq_true hone] at C
    have CH := Lib.hid C
    have HO := Lib.hid hone
    clear C hone
    go_enter Try.func53, Try.ntmps53
    go_wp2_with (first | (go_at_call 79; refine Grew.use CH.out (fun w1 ho1 => ?_); have b1 := (Blk.new w 23 #[.int .i64 size, .int .i64 pages, .int .i64 batch]).only ho1 (by simp); have b10 := b1.cell_ 0 rfl; have b11 := b1.cell_ 1 rfl; have b12 := b1.cell_ 2 rfl) | (go_at_call 80; refine Grew.use (objects_any w1 size pages batch HO.out) (fun w2 ho2 => ?_)))
    go_ret2
    exact ⟨rfl, (((Only.refl [] w).alloc _).trans ho1).trans ho2⟩
  · rw [if_neg hone, if_neg hone]
    have C := one_any (w.alloc (.cells #[.int .i64 size, .int .i64 pages, .int .i64 batch] 23)) size pages batch
    rw [decide_eq_false hone] at C
    have CH := Lib.hid C
    clear C hone
    go_enter Try.func53, Try.ntmps53
    go_wp2_with (first | (go_at_call 79; refine Grew.use CH.out (fun w1 ho1 => ?_)))
    go_ret2
    exact ⟨rfl, ((Only.refl [] w).alloc _).trans ho1⟩

theorem info_int : (Try.prog.info? 3).map (fun i => (i.zero, i.size, i.bytes)) = some (some (.int .i64 0), 1, 8) := by kernel_rfl
theorem info_u8 : (Try.prog.info? 5).map (fun i => (i.zero, i.size, i.bytes)) = some (some (.int .u8 0), 1, 1) := by kernel_rfl

def Sp.fits (start size pages batch : Int) : Prop := oneP size pages batch ∧ 0 ≤ start ∧ start ≤ 1024 - pages
instance (start size pages batch : Int) : Decidable (Sp.fits start size pages batch) := by unfold Sp.fits; infer_instance
def Sp.fresh (start size pages batch : Int) : Sp := ⟨start, size, pages, batch, 0, List.replicate (pages * 256 / size).toNat 0⟩
theorem Sp.fresh_good {start size pages batch : Int} (h : Sp.fits start size pages batch) : (Sp.fresh start size pages batch).Good := by
  obtain ⟨⟨h1, h2, h3, h4, h5, h6, h7, h8⟩, h9, h10⟩ := h
  have hq0 : 0 ≤ pages * 256 / size := Int.ediv_nonneg (by omega) (by omega)
  have hq1 : pages * 256 / size * size ≤ pages * 256 := Int.ediv_mul_le _ (by omega)
  have hq2 : pages * 256 < (pages * 256 / size + 1) * size := Int.lt_ediv_add_one_mul_self _ (by omega)
  have hq3 : 1 ≤ pages * 256 / size := by
    rcases Int.lt_or_le (pages * 256 / size) 1 with h | h
    · have e : pages * 256 / size = 0 := by omega
      rw [e] at hq2
      omega
    · exact h
  refine ⟨h1, h2, h4, h5, h9, h10, ?_, ?_, ?_, ?_, ?_⟩
  · simp [Sp.fresh]; omega
  · simp only [Sp.fresh, List.length_replicate]; rw [Int.toNat_of_nonneg hq0]; exact hq1
  · simp only [Sp.fresh, List.length_replicate]; rw [Int.toNat_of_nonneg hq0]; exact hq2
  · intro i hi
    left
    simp only [Sp.fresh, List.length_replicate] at hi
    simp only [Sp.fresh, List.getD_eq_getElem?_getD, List.getElem?_replicate]
    split <;> rfl
  · simp [Sp.fresh]

theorem made_row (n : Nat) : ∀ i, i < n → (madeCells #[Value.int .i64 0] n)[i]? = some (.int .i64 ((List.replicate n (0 : Int)).getD i 0)) := by
  intro i hi
  have h := congrArg (fun l => l[i]?) (toList_madeCells_one (.int .i64 0) n)
  simp only [Array.getElem?_toList] at h
  rw [h]
  simp [List.getElem?_replicate, hi, List.getD_eq_getElem?_getD]

set_option maxHeartbeats 800000 in
theorem New_any (w : World) (start size pages batch : Int) (h0 : -9223372036854775808 ≤ start) (h1 : start ≤ 9223372036854775807) :
    Calls Try.prog 48 #[.int .i64 start, .agg #[.int .i64 size, .int .i64 pages, .int .i64 batch]] w fun e w' =>
      (Sp.fits start size pages batch → ∃ p q cap, e = .returned (.tuple #[.pointer (some ⟨p, 0, none⟩), .int .i64 0]) ∧ SpanAt w' p q cap (Sp.fresh start size pages batch) ∧ w.heap.size ≤ p ∧ w.heap.size ≤ q) ∧
      (¬ Sp.fits start size pages batch → e = .returned (.tuple #[.pointer none, .int .i64 1])) ∧ Only [] w w' := by
  by_cases hone : oneP size pages batch
  · have C := Objects_any (w.alloc (.cells #[.int .i64 size, .int .i64 pages, .int .i64 batch] 23)) size pages batch
    rw [if_pos hone, if_pos hone] at C
    have hp1 := hone.2.2.2.1
    have hp2 := hone.2.2.2.2.1
    have HO := Lib.hid hone
    have CH := Lib.hid C
    clear C hone
    by_cases hs0 : start < 0
    · go_enter Try.func48, Try.ntmps48
      go_wp2_with (first | (go_at_call 53; refine Grew.use CH.out (fun w1 ho1 => ?_); have b1 := (Blk.new w 23 #[.int .i64 size, .int .i64 pages, .int .i64 batch]).only ho1 (by simp); have b10 := b1.cell_ 0 rfl; have b11 := b1.cell_ 1 rfl; have b12 := b1.cell_ 2 rfl))
      go_ret2
      exact ⟨fun h => absurd h.2.1 (by omega), fun _ => rfl, ((Only.refl [] w).alloc _).trans ho1⟩
    · by_cases hs1 : 1024 - pages < start
      · go_enter Try.func48, Try.ntmps48
        go_wp2_with (first | (go_at_call 53; refine Grew.use CH.out (fun w1 ho1 => ?_); have b1 := (Blk.new w 23 #[.int .i64 size, .int .i64 pages, .int .i64 batch]).only ho1 (by simp); have b10 := b1.cell_ 0 rfl; have b11 := b1.cell_ 1 rfl; have b12 := b1.cell_ 2 rfl))
        go_ret2
        exact ⟨fun h => absurd h.2.2 (by omega), fun _ => rfl, ((Only.refl [] w).alloc _).trans ho1⟩
      · obtain ⟨i0, hi0, hz0, hz1, hz2⟩ := info_parts info_int
        have hfit : Sp.fits start size pages batch := ⟨HO.out, by omega, by omega⟩
        have hg := Sp.fresh_good hfit
        have hl := hg.len
        obtain ⟨n, hn⟩ : ∃ n : Nat, pages * 256 / size = n := ⟨(pages * 256 / size).toNat, by rw [Int.toNat_of_nonneg]; exact Int.ediv_nonneg (by omega) (by have := HO.out.1; omega)⟩
        have hn' : n ≤ 128 := by simpa [Sp.fresh, hn] using hl
        rw [hn] at CH
        have hmk := fun W => run_make (P := Try.prog) W 25 3 i0 (.int .i64 0) Try.underlying25 hi0 hz0 .i64 .i64 n n (by omega) (by omega) (by rw [hz2]; omega) (by omega)
        simp only [Int.toNat_natCast, hz1] at hmk
        have HN := Lib.hid hn
        have HF := Lib.hid hfit
        clear hn hfit hl hg hz0 hz1 hz2 hi0
        go_enter Try.func48, Try.ntmps48
        go_wp2_with (first | (go_at_call 53; refine Grew.use CH.out (fun w1 ho1 => ?_); have b1 := (Blk.new w 23 #[.int .i64 size, .int .i64 pages, .int .i64 batch]).only ho1 (by simp); have b10 := b1.cell_ 0 rfl; have b11 := b1.cell_ 1 rfl; have b12 := b1.cell_ 2 rfl))
        have b1l := b1.lt
        go_region
        go_wp2
        go_ret2
        have hgd := Sp.fresh_good HF.out
        have hst : (Sp.fresh start size pages batch).st = List.replicate n 0 := by simp [Sp.fresh, HN.out]
        refine ⟨fun _ => ⟨w1.heap.size + 1, w1.heap.size, n, rfl, ⟨?_, ⟨madeCells #[.int .i64 0] n, ?_, ?_⟩, hgd⟩, by omega, by omega⟩, fun h => absurd HF.out h, ?_⟩
        · rw [hst, List.length_replicate]
          have := Blk.new (w1.alloc (.cells (madeCells #[.int .i64 0] n) 3)) 102 #[.int .i64 start, .int .i64 size, .int .i64 pages, .int .i64 batch, .slice (some ⟨w1.heap.size, 0, none⟩) n n, .int .i64 0]
          simpa [Sp.fresh] using this.drew
        · exact ((Blk.new w1 3 (madeCells #[.int .i64 0] n)).alloc _).drew
        · rw [hst, List.length_replicate]
          exact made_row n
        · exact ((((Only.refl [] w).alloc _).trans ho1).alloc _).alloc _ |>.drew
  · have C := Objects_any (w.alloc (.cells #[.int .i64 size, .int .i64 pages, .int .i64 batch] 23)) size pages batch
    rw [if_neg hone, if_neg hone] at C
    have HO := Lib.hid hone
    have CH := Lib.hid C
    clear C hone
    go_enter Try.func48, Try.ntmps48
    go_wp2_with (first | (go_at_call 53; refine Grew.use CH.out (fun w1 ho1 => ?_)))
    go_ret2
    exact ⟨fun h => absurd h.1 HO.out, fun _ => rfl, ((Only.refl [] w).alloc _).trans ho1⟩
end Go.Proofs.Ytlmjelcnldlagaa

/- SpanRefuses, walked. -/
import Derived.Test.YtnflfolonfmchaaSpK
set_option linter.unusedVariables false
set_option linter.unusedSimpArgs false
namespace Go.Proofs.Ytnflfolonfmchaa
open Go.RowKit

set_option maxHeartbeats 400000 in
theorem great_any (w : World) (A : Option Addr) (n c : Nat) (hn : n ≤ 9223372036854775807) : Still Try.prog 17 #[.slice A n c] w (.bool (decide (60 < n))) := by
  go_enter Try.func17, Try.ntmps17
  go_wp2
  go_ret
  exact ⟨ret_bool (by simp; omega), rfl⟩

theorem Blk.new2 (w : World) (o : Obj) (t : TypeId) (cs : Array Value) : Blk ((w.alloc o).alloc (.cells cs t)) (w.heap.size + 1) t cs := by
  simpa using Blk.new (w.alloc o) t cs

theorem Sp.take_same {s : Sp} (h : s.take.1.2 ≠ 0) : s.take.2 = s := by
  unfold Sp.take at h ⊢
  split at h <;> simp_all
theorem Sp.free_same {s : Sp} {a : Int} (h : (s.free a).1 ≠ 0) : (s.free a).2 = s := by
  unfold Sp.free at h ⊢
  split at h
  · simp_all
  · split at h <;> simp_all
theorem Sp.act_same {s : Sp} {x : Int × Int} (h : ¬ ((s.act x).1 = 0 ∧ x.1 ≤ 1)) : (s.act x).2 = s := by
  unfold Sp.act at h ⊢
  split
  · rename_i h0
    rw [if_pos h0] at h
    exact Sp.take_same (fun e => h ⟨e, by omega⟩)
  · rename_i h0
    rw [if_neg h0] at h
    split
    · rename_i h1
      rw [if_pos h1] at h
      exact Sp.free_same (fun e => h ⟨e, by omega⟩)
    · split
      · rfl
      · split <;> rfl

set_option maxHeartbeats 4000000 in
theorem SpanRefuses_walk (w : World) (start : Int) (hs : I64 start) (size pages batch : Int) (_ : I64 size) (_ : I64 pages) (_ : I64 batch) (A : Option Addr) (n c : Nat) (l : List (Int × Int)) (hr : ReadsA w A n l) (hn : n ≤ 9223372036854775807) (k a : Int) (_ : I64 k) (ha : I64 a) :
    Grew Try.prog 4 #[.int .i64 start, .agg #[.int .i64 size, .int .i64 pages, .int .i64 batch], .slice A n c, .agg #[.int .i64 k, .int .i64 a]] w (.bool true) := by
  have bC := (Blk.new w 23 #[.int .i64 size, .int .i64 pages, .int .i64 batch]).alloc (.cells #[.int .i64 k, .int .i64 a] 37)
  have bX := Blk.new2 w (.cells #[.int .i64 size, .int .i64 pages, .int .i64 batch] 23) 37 #[.int .i64 k, .int .i64 a]
  have ho0 := ((Only.refl [] w).alloc (.cells #[.int .i64 size, .int .i64 pages, .int .i64 batch] 23)).alloc (.cells #[.int .i64 k, .int .i64 a] 37)
  have hr0 := hr.only ho0 (by simp)
  clear hr
  by_cases hg : 60 < n
  · have d0 : decide (60 < n) = true := decide_eq_true hg
    go_enter Try.func4, Try.ntmps4
    go_wp2_with fail
    generalize (w.alloc (.cells #[.int .i64 size, .int .i64 pages, .int .i64 batch] 23)).alloc (.cells #[.int .i64 k, .int .i64 a] 37) = w0 at *
    refine Still.use (great_any w0 A n c hn) ?_
    go_wp2_with (first | (go_at_call 11; refine Grew.use (alive_any w0) (fun w1 ho1 => ?_)))
    go_ret
    exact ⟨rfl, ho0.trans ho1⟩
  · have d0 : decide (60 < n) = false := decide_eq_false hg
    go_enter Try.func4, Try.ntmps4
    go_wp2_with fail
    generalize (w.alloc (.cells #[.int .i64 size, .int .i64 pages, .int .i64 batch] 23)).alloc (.cells #[.int .i64 k, .int .i64 a] 37) = w0 at *
    refine Still.use (great_any w0 A n c hn) ?_
    have bC0 := bC.cell_ 0 rfl
    have bC1 := bC.cell_ 1 rfl
    have bC2 := bC.cell_ 2 rfl
    go_wp2_with fail
    refine (made_any w0 start size pages batch hs A n c l hr0 (by omega)).mono ?_
    rintro e w1 ⟨hm1, hm2, ho1⟩
    have bX1 := bX.only ho1 (by simp)
    clear bC0 bC1 bC2 hr0
    by_cases hf : Sp.fits start size pages batch
    · obtain ⟨p, q, cap, rfl, hsp, hp, hq⟩ := hm1 hf
      clear hm1 hm2 hf
      generalize (Sp.fresh start size pages batch).acts l = s at hsp
      have hsz := ho0.size
      have hp' : w.heap.size ≤ p := by omega
      have hq' : w.heap.size ≤ q := by omega
      go_wp2_with fail
      refine Grew.use (Bits_at hsp) (fun w2 ho2 => ?_)
      have hsp2 := hsp.only ho2 (by simp) (by simp)
      have bX2 := bX1.only ho2 (by simp)
      have bX20 := bX2.cell_ 0 rfl
      have bX21 := bX2.cell_ 1 rfl
      have D := do_at hsp2 k a ha
      have HA : ¬ ((s.act (k, a)).1 = 0 ∧ k ≤ 1) → (s.act (k, a)).2 = s := Sp.act_same
      obtain ⟨⟨r1, r2⟩, hrr⟩ : ∃ r, s.act (k, a) = r := ⟨_, rfl⟩
      rw [hrr] at D HA
      clear hrr
      have HAH := Lib.hid HA
      clear HA
      go_wp2_with fail
      refine D.mono ?_
      rintro e w3 ⟨rfl, hsp3, ho3⟩
      have hnp : w.heap.size + 1 ∉ [p, q] := by
        have h1 := bX2.lt
        have h2 := hp
        have h3 := hq
        have h4 := bX.lt
        simp
        omega
      have bX3 := bX2.only ho3 hnp
      have bX30 := bX3.cell_ 0 rfl
      clear bX20 bX21
      have hoA := only_pq ((ho0.trans ho1).trans ho2) ho3 hp' hq'
      by_cases h1 : r1 = 0
      · subst h1
        by_cases h2 : k ≤ 1
        · have d1 : decide (k ≤ 1) = true := decide_eq_true h2
          go_wp2_with (first | (go_at_call 11; refine Grew.use (alive_any w3) (fun w4 ho4 => ?_)))
          go_ret
          exact ⟨rfl, hoA.trans ho4⟩
        · have d1 : decide (k ≤ 1) = false := decide_eq_false h2
          have e2 : r2 = s := HAH.out (fun h => h2 h.2)
          subst e2
          go_wp2_with (first | (go_at_call 18; refine Grew.use (Bits_at hsp3) (fun w4 ho4 => ?_)) | (go_at_call 11; refine Grew.use (alive_any w4) (fun w5 ho5 => ?_)))
          go_ret
          exact ⟨rfl, (hoA.trans ho4).trans ho5⟩
      · have d1 : (r1 == 0) = false := beq_eq_false_iff_ne.2 h1
        have e2 : r2 = s := HAH.out (fun h => h1 h.1)
        clear h1
        subst e2
        go_wp2_with (first | (go_at_call 18; refine Grew.use (Bits_at hsp3) (fun w4 ho4 => ?_)) | (go_at_call 11; refine Grew.use (alive_any w4) (fun w5 ho5 => ?_)))
        go_ret
        exact ⟨rfl, (hoA.trans ho4).trans ho5⟩
    · have he := hm2 hf
      subst he
      clear hm1 hm2 hf
      go_wp2_with (first | (go_at_call 11; refine Grew.use (alive_any w1) (fun w2 ho2 => ?_)))
      go_ret
      exact ⟨rfl, (ho0.trans ho1).trans ho2⟩
end Go.Proofs.Ytnflfolonfmchaa

/- A space that nobody made: play, Same and the law's walk. -/
import Derived.Test.YtmalmkccgjeboaaDoorWA
import Derived.Test.YtmalmkccgjeboaaDoorGrew
set_option linter.unusedVariables false
set_option linter.unusedSimpArgs false
namespace Go.Proofs.YtmalmkccgjeboaaDoor
open Go.RowKit

set_option maxRecDepth 100000 in
set_option maxHeartbeats 4000000 in
theorem nplay (w : World) (hE : Env w) (v : Value) (h : Unm w v) (x : Ac) :
    Grew Tryd.prog 33 #[v, .pointer none, .agg #[.int .i64 x.k, .int .i64 x.a, .int .i64 x.b, .int .i64 x.c]] w (.bool true) := by
  obtain ⟨k, a, b, c⟩ := x
  dsimp only at *
  have ho0 := (Only.refl [] w).alloc (.cells #[.int .i64 k, .int .i64 a, .int .i64 b, .int .i64 c] 30)
  have bX := Blk.new w 30 #[.int .i64 k, .int .i64 a, .int .i64 b, .int .i64 c]
  have HE := Lib.hid (hE.only ho0 (by simp))
  have HU := Lib.hid (h.still ho0)
  have HO := Lib.hid ho0
  have y0 := bX.cell_ 0 rfl
  have y1 := bX.cell_ 1 rfl
  have y2 := bX.cell_ 2 rfl
  have y3 := bX.cell_ 3 rfl
  clear h hE bX
  have x1 := cell_after y1
  have x2 := cell_after y2
  have x3 := cell_after y3
  clear ho0
  by_cases k0 : k = 0
  · subst k0
    go_enter Tryd.func33, Tryd.ntmps33
    go_wp2_with fail
    refine wp_region_grew (by kernel_rfl) (by kernel_rfl) ?_
    repeat (go_big_quiet_step (first
      | (go_at_call 25; exact Grew.g (Still.grew (nMap _ v (HU.out.still (After.ok _)) a b)))
      | (go_at_call 51; exact Grew.g (Still.grew (rMap _ a b)))))
    refine wpQuiet_nil ?_
    rintro _ ⟨u, rfl⟩
    go_wp2_with fail
    go_ret
    exact ⟨rfl, HO.out.trans u.ok⟩
  have d0 : (k == 0) = false := beq_eq_false_iff_ne.2 k0
  by_cases k1 : k = 1
  · subst k1
    go_enter Tryd.func33, Tryd.ntmps33
    go_wp2_with fail
    refine wp_region_grew (by kernel_rfl) (by kernel_rfl) ?_
    repeat (go_big_quiet_step (first
      | (go_at_call 23; exact Grew.g (nUnmap _ (HE.out.only (After.ok _) (by simp)) v (HU.out.still (After.ok _)) a b))
      | (go_at_call 52; exact Grew.g (Still.grew (rUnmap _ a b)))))
    refine wpQuiet_nil ?_
    rintro _ ⟨u, rfl⟩
    go_wp2_with fail
    go_ret
    exact ⟨rfl, HO.out.trans u.ok⟩
  have d1 : (k == 1) = false := beq_eq_false_iff_ne.2 k1
  by_cases k2 : k = 2
  · subst k2
    go_enter Tryd.func33, Tryd.ntmps33
    go_wp2_with fail
    refine wp_region_grew (by kernel_rfl) (by kernel_rfl) ?_
    repeat (go_big_quiet_step (first
      | (go_at_call 26; exact Grew.g (nRelease _ (HE.out.only (After.ok _) (by simp)) v (HU.out.still (After.ok _)) a b))
      | (go_at_call 53; exact Grew.g (Still.grew (rRelease _ a b)))))
    refine wpQuiet_nil ?_
    rintro _ ⟨u, rfl⟩
    go_wp2_with fail
    go_ret
    exact ⟨rfl, HO.out.trans u.ok⟩
  have d2 : (k == 2) = false := beq_eq_false_iff_ne.2 k2
  by_cases k3 : k = 3
  · subst k3
    go_enter Tryd.func33, Tryd.ntmps33
    go_wp2_with (first
      | (go_at_call 17; with_reducible refine Still.use (nRead _ v HU.out a) ?_)
      | (go_at_call 54; with_reducible refine Still.use (rRead _ a) ?_)
      | (go_at_call 57; with_reducible refine Still.use (nInts _) ?_))
    go_ret
    exact ⟨rfl, HO.out⟩
  have d3 : (k == 3) = false := beq_eq_false_iff_ne.2 k3
  by_cases k4 : k = 4
  · subst k4
    go_enter Tryd.func33, Tryd.ntmps33
    go_wp2_with fail
    refine wp_region_grew (by kernel_rfl) (by kernel_rfl) ?_
    repeat (go_big_quiet_step (first
      | (go_at_call 16; exact Grew.g (Still.grew (nWrite _ v (HU.out.still (After.ok _)) a b)))
      | (go_at_call 55; exact Grew.g (Still.grew (rWrite _ a b)))))
    refine wpQuiet_nil ?_
    rintro _ ⟨u, rfl⟩
    go_wp2_with fail
    go_ret
    exact ⟨rfl, HO.out.trans u.ok⟩
  have d4 : (k == 4) = false := beq_eq_false_iff_ne.2 k4
  by_cases k5 : k = 5
  · subst k5
    go_enter Tryd.func33, Tryd.ntmps33
    go_wp2_with (first
      | (go_at_call 27; with_reducible refine Still.use (nWords _ v HU.out a b) ?_)
      | (go_at_call 56; with_reducible refine Still.use (rWords _ a b) ?_)
      | (go_at_call 57; with_reducible refine Still.use (nInts _) ?_))
    go_ret
    exact ⟨rfl, HO.out⟩
  have d5 : (k == 5) = false := beq_eq_false_iff_ne.2 k5
  by_cases k6 : k = 6
  · subst k6
    go_enter Tryd.func33, Tryd.ntmps33
    go_wp2_with fail
    refine wp_region_grew (by kernel_rfl) (by kernel_rfl) ?_
    repeat (go_big_quiet_step (first
      | (go_at_call 28; exact Grew.g (Still.grew (nFill _ v (HU.out.still (After.ok _)) a b c)))
      | (go_at_call 58; exact Grew.g (Still.grew (rFill _ a b c)))))
    refine wpQuiet_nil ?_
    rintro _ ⟨u, rfl⟩
    go_wp2_with fail
    go_ret
    exact ⟨rfl, HO.out.trans u.ok⟩
  have d6 : (k == 6) = false := beq_eq_false_iff_ne.2 k6
  by_cases k7 : k = 7
  · subst k7
    go_enter Tryd.func33, Tryd.ntmps33
    go_wp2_with fail
    refine wp_region_grew (by kernel_rfl) (by kernel_rfl) ?_
    repeat (go_big_quiet_step (first
      | (go_at_call 29; exact Grew.g (Still.grew (nCopy _ v (HU.out.still (After.ok _)) a b c)))
      | (go_at_call 59; exact Grew.g (Still.grew (rCopy _ a b c)))))
    refine wpQuiet_nil ?_
    rintro _ ⟨u, rfl⟩
    go_wp2_with fail
    go_ret
    exact ⟨rfl, HO.out.trans u.ok⟩
  have d7 : (k == 7) = false := beq_eq_false_iff_ne.2 k7
  clear k0 k1 k2 k3 k4 k5 k6 k7
  go_enter Tryd.func33, Tryd.ntmps33
  go_wp2_with fail
  go_ret
  exact ⟨rfl, HO.out⟩

set_option maxRecDepth 100000 in
set_option maxHeartbeats 4000000 in
theorem nSame (w : World) (v : Value) (h : Unm w v) : Still Tryd.prog 34 #[v, .pointer none] w (.bool true) := by
  have HU := Lib.hid h
  clear h
  go_enter Tryd.func34, Tryd.ntmps34
  go_wp2_with (first
      | (go_at_call 21; with_reducible refine Still.use (nPages _ v HU.out) ?_)
      | (go_at_call 60; with_reducible refine Still.use (rPages _) ?_)
      | (go_at_call 20; with_reducible refine Still.use (nMapped _ v HU.out) ?_)
      | (go_at_call 61; with_reducible refine Still.use (rMapped _) ?_)
      | (go_at_call 19; with_reducible refine Still.use (nDirty _ v HU.out) ?_)
      | (go_at_call 62; with_reducible refine Still.use (rDirty _) ?_)
      | (go_at_call 18; with_reducible refine Still.use (nPeak _ v HU.out) ?_)
      | (go_at_call 63; with_reducible refine Still.use (rPeak _) ?_))
  go_loop [5] (fun t => ∃ k : Int, -1 ≤ k ∧ k ≤ 4 ∧ t = .int .i64 k) (fun t => (4 - intOf t).toNat)
  case atStart => exact ⟨-1, by omega, by omega, rfl⟩
  case round =>
    obtain ⟨k, h1, h2, rfl⟩ := hrel
    by_cases hlt : k ≤ 3
    · have d1 : decide (k ≤ 3) = true := decide_eq_true hlt
      go_wp2_with (first
        | (go_at_call 35; with_reducible refine Still.use (nRuns _ v HU.out _) ?_)
        | (go_at_call 65; with_reducible refine Still.use (rRuns _ _) ?_)
        | (go_at_call 64; with_reducible refine Still.use (nRunsEq _) ?_))
      go_round
      case rel => exact ⟨k + 1, by omega, by omega, by go_num⟩
      case measure => simp [intOf]; omega
    · have d1 : decide (k ≤ 3) = false := decide_eq_false hlt
      go_wp2_with fail
      go_loop [6] (fun t => ∃ k : Int, -1 ≤ k ∧ k ≤ 1 ∧ t = .int .i64 k) (fun t => (1 - intOf t).toNat)
      case atStart => exact ⟨-1, by omega, by omega, rfl⟩
      case round =>
        obtain ⟨p, h3, h4, rfl⟩ := hrel
        by_cases hp : p ≤ 0
        · have d2 : decide (p ≤ 0) = true := decide_eq_true hp
          go_wp2_with (first
            | (go_at_call 60; with_reducible refine Still.use (rPages _) ?_)
            | (go_at_call 24; with_reducible refine Still.use (nState _ v HU.out _) ?_)
            | (go_at_call 66; with_reducible refine Still.use (rState _ _) ?_))
          go_round
          case rel => exact ⟨p + 1, by omega, by omega, by go_num⟩
          case measure => simp [intOf]; omega
        · have d2 : decide (p ≤ 0) = false := decide_eq_false hp
          go_wp2_with (first | (go_at_call 60; with_reducible refine Still.use (rPages _) ?_))
          go_ret
          exact ⟨rfl, rfl⟩

theorem Blk.new2 (w : World) (o : Obj) (t : TypeId) (cs : Array Value) : Blk ((w.alloc o).alloc (.cells cs t)) (w.heap.size + 1) t cs := by
  simpa using Blk.new (w.alloc o) t cs
set_option maxRecDepth 100000 in
set_option maxHeartbeats 4000000 in
theorem SpaceNone_walk (w : World) (hE : Env w) (k a b c : Int) (_ : I64 k) (_ : I64 a) (_ : I64 b) (_ : I64 c) : Grew Tryd.prog 10 #[.agg #[.int .i64 k, .int .i64 a, .int .i64 b, .int .i64 c]] w (.bool true) := by
  have CP := Lib.hid (fun w h v hu => nplay w h v hu ⟨k, a, b, c⟩)
  dsimp only at CP
  have bx := (Blk.new w 30 #[.int .i64 k, .int .i64 a, .int .i64 b, .int .i64 c]).alloc (.cells #[.slice none 0 0, .map none, .int .i64 0] 58)
  have bz := Blk.new2 w (.cells #[.int .i64 k, .int .i64 a, .int .i64 b, .int .i64 c] 30) 58 #[.slice none 0 0, .map none, .int .i64 0]
  have ho0 := ((Only.refl [] w).alloc (.cells #[.int .i64 k, .int .i64 a, .int .i64 b, .int .i64 c] 30)).alloc (.cells #[.slice none 0 0, .map none, .int .i64 0] 58)
  have HE := Lib.hid (hE.only ho0 (by simp))
  clear hE
  go_enter Tryd.func10, Tryd.ntmps10
  go_wp2_with fail
  generalize (w.alloc (.cells #[.int .i64 k, .int .i64 a, .int .i64 b, .int .i64 c] 30)).alloc (.cells #[.slice none 0 0, .map none, .int .i64 0] 58) = w0 at *
  have uz : Unm w0 (.pointer (some ⟨w.heap.size + 1, 0, none⟩)) := .inr ⟨_, rfl, bz.cell_ 0 rfl⟩
  refine Grew.use (CP.out _ HE.out _ (.inl rfl)) (fun w1 ho1 => ?_)
  have b1 := bx.only ho1 (by simp)
  have c0 := b1.cell_ 0 rfl
  have c1 := b1.cell_ 1 rfl
  have c2 := b1.cell_ 2 rfl
  have c3 := b1.cell_ 3 rfl
  have u1 := uz.still ho1
  have HE1 := Lib.hid (HE.out.only ho1 (by simp))
  go_wp2_with fail
  refine Grew.use (CP.out _ HE1.out _ u1) (fun w2 ho2 => ?_)
  have u2 := u1.still ho2
  have HE2 := Lib.hid (HE1.out.only ho2 (by simp))
  have b2 := b1.only ho2 (by simp)
  clear c0 c1 c2 c3
  have c1 := b2.cell_ 1 rfl
  go_wp2_with fail
  refine Still.use (nSame _ _ (.inl rfl)) ?_
  go_wp2_with fail
  refine Still.use (nSame _ _ u2) ?_
  go_wp2_with fail
  refine Still.use (nClone _ _ (.inl rfl)) ?_
  go_wp2_with fail
  refine Still.use (nClone _ _ u2) ?_
  go_wp2_with fail
  refine Still.use (nState _ _ (.inl rfl) _) ?_
  go_wp2_with fail
  refine Still.use (nState _ _ u2 _) ?_
  go_wp2_with (first | (go_at_call 14; refine Grew.use (alive_any _ HE2.out) (fun w5 ho5 => ?_)))
  go_ret
  exact ⟨rfl, ((ho0.trans ho1).trans ho2).trans ho5⟩
end Go.Proofs.YtmalmkccgjeboaaDoor

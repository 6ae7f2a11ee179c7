/- A space that nobody made: all functions. -/
import Derived.Test.YtmalmkccgjeboaaDoorVM
set_option linter.unusedVariables false
set_option linter.unusedSimpArgs false
namespace Go.Proofs.YtmalmkccgjeboaaDoor
open Go.RowKit

/-- No space, or one of zero value. -/
def Unm (w : World) (v : Value) : Prop := v = .pointer none ∨ ∃ q, v = .pointer (some ⟨q, 0, none⟩) ∧ w.cell? ⟨q, 0, none⟩ = some (.slice none 0 0)
theorem Unm.still {w w' : World} {v : Value} (h : Unm w v) (ho : Only [] w w') : Unm w' v := by
  rcases h with rfl | ⟨q, rfl, hz⟩
  · exact .inl rfl
  · exact .inr ⟨q, rfl, (ho.cell (World.block_lt_of_cell? w _ hz) (by simp)).trans hz⟩

theorem nmade (w : World) (v : Value) (h : Unm w v) : Still Tryd.prog 40 #[v] w (.bool false) := by
  rcases h with rfl | ⟨q, rfl, z⟩
  all_goals
    go_enter Tryd.func40, Tryd.ntmps40
    go_wp2_with fail
    go_ret
    exact ⟨rfl, rfl⟩

theorem nrun (w : World) (v : Value) (h : Unm w v) (a b : Int) : Still Tryd.prog 44 #[v, .int .i64 a, .int .i64 b] w (.tuple #[.slice none 0 0, .int .i64 5]) := by
  have CM := Lib.hid (nmade w v h)
  go_enter Tryd.func44, Tryd.ntmps44
  go_wp2_with (first | (go_at_call 40; with_reducible refine Still.use CM.out ?_))
  go_ret2
  exact ⟨rfl, rfl⟩

theorem nMap (w : World) (v : Value) (h : Unm w v) (a b : Int) : Still Tryd.prog 25 #[v, .int .i64 a, .int .i64 b] w (.int .i64 5) := by
  have CR := Lib.hid (nrun w v h a b)
  go_enter Tryd.func25, Tryd.ntmps25
  go_wp2_with (first | (go_at_call 44; with_reducible refine Still.use CR.out ?_))
  go_ret
  exact ⟨rfl, rfl⟩

theorem nleave (w : World) (v : Value) (h : Unm w v) (a b : Int) (x y : Bool) : Grew Tryd.prog 42 #[v, .int .i64 a, .int .i64 b, .agg #[.bool x, .bool y]] w (.int .i64 5) := by
  have ho := (Only.refl [] w).alloc (.cells #[.bool x, .bool y] 70)
  have CR := Lib.hid (nrun _ v (h.still ho) a b)
  go_enter Tryd.func42, Tryd.ntmps42
  go_wp2_with (first | (go_at_call 44; with_reducible refine Still.use CR.out ?_))
  go_ret
  exact ⟨rfl, ho⟩

theorem nUnmap (w : World) (hE : Env w) (v : Value) (h : Unm w v) (a b : Int) : Grew Tryd.prog 23 #[v, .int .i64 a, .int .i64 b] w (.int .i64 5) := by
  have CL := Lib.hid (nleave w v h a b false false)
  have u0 := hE.u0
  have u1 := hE.u1
  go_enter Tryd.func23, Tryd.ntmps23
  go_wp2_with (first | (go_at_call 42; with_reducible refine Grew.use CL.out (fun w1 ho1 => ?_)))
  go_ret
  exact ⟨rfl, ho1⟩

theorem nRelease (w : World) (hE : Env w) (v : Value) (h : Unm w v) (a b : Int) : Grew Tryd.prog 26 #[v, .int .i64 a, .int .i64 b] w (.int .i64 5) := by
  have CL := Lib.hid (nleave w v h a b true false)
  have u0 := hE.c0
  have u1 := hE.c1
  go_enter Tryd.func26, Tryd.ntmps26
  go_wp2_with (first | (go_at_call 42; with_reducible refine Grew.use CL.out (fun w1 ho1 => ?_)))
  go_ret
  exact ⟨rfl, ho1⟩

theorem naccess (w : World) (v : Value) (h : Unm w v) (a b : Int) : Still Tryd.prog 37 #[v, .int .i64 a, .int .i64 b] w (.int .i64 5) := by
  have CM := Lib.hid (nmade w v h)
  go_enter Tryd.func37, Tryd.ntmps37
  go_wp2_with (first | (go_at_call 40; with_reducible refine Still.use CM.out ?_))
  go_ret
  exact ⟨rfl, rfl⟩

theorem ncounted (w : World) (v : Value) (h : Unm w v) (a b : Int) : Still Tryd.prog 48 #[v, .int .i64 a, .int .i64 b] w (.int .i64 5) := by
  have CM := Lib.hid (nmade w v h)
  have CA := Lib.hid (naccess w v h a b)
  go_enter Tryd.func48, Tryd.ntmps48
  go_wp2_with (first | (go_at_call 40; with_reducible refine Still.use CM.out ?_) | (go_at_call 37; with_reducible refine Still.use CA.out ?_))
  go_ret
  exact ⟨rfl, rfl⟩

theorem nRead (w : World) (v : Value) (h : Unm w v) (a : Int) : Still Tryd.prog 17 #[v, .int .i64 a] w (.tuple #[.int .i64 0, .int .i64 5]) := by
  have CA := Lib.hid (naccess w v h a 1)
  go_enter Tryd.func17, Tryd.ntmps17
  go_wp2_with (first | (go_at_call 37; with_reducible refine Still.use CA.out ?_))
  go_ret2
  exact ⟨rfl, rfl⟩

theorem nWrite (w : World) (v : Value) (h : Unm w v) (a b : Int) : Still Tryd.prog 16 #[v, .int .i64 a, .int .i64 b] w (.int .i64 5) := by
  have CA := Lib.hid (naccess w v h a 1)
  go_enter Tryd.func16, Tryd.ntmps16
  go_wp2_with (first | (go_at_call 37; with_reducible refine Still.use CA.out ?_))
  go_ret
  exact ⟨rfl, rfl⟩

theorem nWords (w : World) (v : Value) (h : Unm w v) (a b : Int) : Still Tryd.prog 27 #[v, .int .i64 a, .int .i64 b] w (.tuple #[.slice none 0 0, .int .i64 5]) := by
  have CC := Lib.hid (ncounted w v h a b)
  go_enter Tryd.func27, Tryd.ntmps27
  go_wp2_with (first | (go_at_call 48; with_reducible refine Still.use CC.out ?_))
  go_ret2
  exact ⟨rfl, rfl⟩

theorem nFill (w : World) (v : Value) (h : Unm w v) (a b c : Int) : Still Tryd.prog 28 #[v, .int .i64 a, .int .i64 b, .int .i64 c] w (.int .i64 5) := by
  have CC := Lib.hid (ncounted w v h a b)
  go_enter Tryd.func28, Tryd.ntmps28
  go_wp2_with (first | (go_at_call 48; with_reducible refine Still.use CC.out ?_))
  go_ret
  exact ⟨rfl, rfl⟩

theorem nCopy (w : World) (v : Value) (h : Unm w v) (a b c : Int) : Still Tryd.prog 29 #[v, .int .i64 a, .int .i64 b, .int .i64 c] w (.int .i64 5) := by
  have CC := Lib.hid (ncounted w v h a c)
  go_enter Tryd.func29, Tryd.ntmps29
  go_wp2_with (first | (go_at_call 48; with_reducible refine Still.use CC.out ?_))
  go_ret
  exact ⟨rfl, rfl⟩

theorem nState (w : World) (v : Value) (h : Unm w v) (a : Int) : Still Tryd.prog 24 #[v, .int .i64 a] w (.int .i64 (-1)) := by
  have CM := Lib.hid (nmade w v h)
  go_enter Tryd.func24, Tryd.ntmps24
  go_wp2_with (first | (go_at_call 40; with_reducible refine Still.use CM.out ?_))
  go_ret
  exact ⟨rfl, rfl⟩

theorem nRuns (w : World) (v : Value) (h : Unm w v) (a : Int) : Still Tryd.prog 35 #[v, .int .i64 a] w (.slice none 0 0) := by
  have CM := Lib.hid (nmade w v h)
  go_enter Tryd.func35, Tryd.ntmps35
  go_wp2_with (first | (go_at_call 40; with_reducible refine Still.use CM.out ?_))
  go_ret
  exact ⟨rfl, rfl⟩

theorem nPages (w : World) (v : Value) (h : Unm w v)  : Still Tryd.prog 21 #[v] w (.int .i64 0) := by
  have CM := Lib.hid (nmade w v h)
  go_enter Tryd.func21, Tryd.ntmps21
  go_wp2_with (first | (go_at_call 40; with_reducible refine Still.use CM.out ?_))
  go_ret
  exact ⟨rfl, rfl⟩

theorem nDirty (w : World) (v : Value) (h : Unm w v)  : Still Tryd.prog 19 #[v] w (.int .i64 0) := by
  have CM := Lib.hid (nmade w v h)
  go_enter Tryd.func19, Tryd.ntmps19
  go_wp2_with (first | (go_at_call 40; with_reducible refine Still.use CM.out ?_))
  go_ret
  exact ⟨rfl, rfl⟩

theorem nPeak (w : World) (v : Value) (h : Unm w v)  : Still Tryd.prog 18 #[v] w (.int .i64 0) := by
  have CM := Lib.hid (nmade w v h)
  go_enter Tryd.func18, Tryd.ntmps18
  go_wp2_with (first | (go_at_call 40; with_reducible refine Still.use CM.out ?_))
  go_ret
  exact ⟨rfl, rfl⟩

theorem nClone (w : World) (v : Value) (h : Unm w v)  : Still Tryd.prog 22 #[v] w (.pointer none) := by
  have CM := Lib.hid (nmade w v h)
  go_enter Tryd.func22, Tryd.ntmps22
  go_wp2_with (first | (go_at_call 40; with_reducible refine Still.use CM.out ?_))
  go_ret
  exact ⟨rfl, rfl⟩

theorem nMapped (w : World) (v : Value) (h : Unm w v) : Still Tryd.prog 20 #[v] w (.int .i64 0) := by
  have CP := Lib.hid (nPages w v h)
  go_enter Tryd.func20, Tryd.ntmps20
  go_wp2_with (first | (go_at_call 21; with_reducible refine Still.use CP.out ?_))
  go_loop [3, 7] (fun q t => q = .int .i64 0 ∧ t = .int .i64 0) (fun _ _ => 0)
  case atStart => exact ⟨rfl, rfl⟩
  case round =>
    obtain ⟨rfl, rfl⟩ := hrel
    go_wp2_with fail
    go_ret
    exact ⟨rfl, rfl⟩

theorem rmade (w : World)  : Still Tryd.prog 50 #[.pointer none] w (.bool false) := by
  go_enter Tryd.func50, Tryd.ntmps50
  go_wp2_with fail
  go_ret
  exact ⟨rfl, rfl⟩

theorem rMap (w : World) (a b : Int) : Still Tryd.prog 51 #[.pointer none, .int .i64 a, .int .i64 b] w (.int .i64 5) := by
  have CM := Lib.hid (rmade w)
  go_enter Tryd.func51, Tryd.ntmps51
  go_wp2_with (first | (go_at_call 50; with_reducible refine Still.use CM.out ?_))
  go_ret
  exact ⟨rfl, rfl⟩

theorem rlose (w : World) (a b c : Int) : Still Tryd.prog 72 #[.pointer none, .int .i64 a, .int .i64 b, .int .i64 c] w (.int .i64 5) := by
  have CM := Lib.hid (rmade w)
  go_enter Tryd.func72, Tryd.ntmps72
  go_wp2_with (first | (go_at_call 50; with_reducible refine Still.use CM.out ?_))
  go_ret
  exact ⟨rfl, rfl⟩

theorem rUnmap (w : World) (a b : Int) : Still Tryd.prog 52 #[.pointer none, .int .i64 a, .int .i64 b] w (.int .i64 5) := by
  have CL := Lib.hid (rlose w a b 0)
  go_enter Tryd.func52, Tryd.ntmps52
  go_wp2_with (first | (go_at_call 72; with_reducible refine Still.use CL.out ?_))
  go_ret
  exact ⟨rfl, rfl⟩

theorem rRelease (w : World) (a b : Int) : Still Tryd.prog 53 #[.pointer none, .int .i64 a, .int .i64 b] w (.int .i64 5) := by
  have CL := Lib.hid (rlose w a b 1)
  go_enter Tryd.func53, Tryd.ntmps53
  go_wp2_with (first | (go_at_call 72; with_reducible refine Still.use CL.out ?_))
  go_ret
  exact ⟨rfl, rfl⟩

theorem rRead (w : World) (a : Int) : Still Tryd.prog 54 #[.pointer none, .int .i64 a] w (.tuple #[.int .i64 0, .int .i64 5]) := by
  have CM := Lib.hid (rmade w)
  go_enter Tryd.func54, Tryd.ntmps54
  go_wp2_with (first | (go_at_call 50; with_reducible refine Still.use CM.out ?_))
  go_ret2
  exact ⟨rfl, rfl⟩

theorem rWrite (w : World) (a b : Int) : Still Tryd.prog 55 #[.pointer none, .int .i64 a, .int .i64 b] w (.int .i64 5) := by
  have CM := Lib.hid (rmade w)
  go_enter Tryd.func55, Tryd.ntmps55
  go_wp2_with (first | (go_at_call 50; with_reducible refine Still.use CM.out ?_))
  go_ret
  exact ⟨rfl, rfl⟩

theorem rWords (w : World) (a b : Int) : Still Tryd.prog 56 #[.pointer none, .int .i64 a, .int .i64 b] w (.tuple #[.slice none 0 0, .int .i64 5]) := by
  have CM := Lib.hid (rmade w)
  go_enter Tryd.func56, Tryd.ntmps56
  go_wp2_with (first | (go_at_call 50; with_reducible refine Still.use CM.out ?_))
  go_ret2
  exact ⟨rfl, rfl⟩

theorem rFill (w : World) (a b c : Int) : Still Tryd.prog 58 #[.pointer none, .int .i64 a, .int .i64 b, .int .i64 c] w (.int .i64 5) := by
  have CM := Lib.hid (rmade w)
  go_enter Tryd.func58, Tryd.ntmps58
  go_wp2_with (first | (go_at_call 50; with_reducible refine Still.use CM.out ?_))
  go_ret
  exact ⟨rfl, rfl⟩

theorem rCopy (w : World) (a b c : Int) : Still Tryd.prog 59 #[.pointer none, .int .i64 a, .int .i64 b, .int .i64 c] w (.int .i64 5) := by
  have CM := Lib.hid (rmade w)
  go_enter Tryd.func59, Tryd.ntmps59
  go_wp2_with (first | (go_at_call 50; with_reducible refine Still.use CM.out ?_))
  go_ret
  exact ⟨rfl, rfl⟩

theorem rState (w : World) (a : Int) : Still Tryd.prog 66 #[.pointer none, .int .i64 a] w (.int .i64 (-1)) := by
  have CM := Lib.hid (rmade w)
  go_enter Tryd.func66, Tryd.ntmps66
  go_wp2_with (first | (go_at_call 50; with_reducible refine Still.use CM.out ?_))
  go_ret
  exact ⟨rfl, rfl⟩

theorem rRuns (w : World) (a : Int) : Still Tryd.prog 65 #[.pointer none, .int .i64 a] w (.slice none 0 0) := by
  have CM := Lib.hid (rmade w)
  go_enter Tryd.func65, Tryd.ntmps65
  go_wp2_with (first | (go_at_call 50; with_reducible refine Still.use CM.out ?_))
  go_ret
  exact ⟨rfl, rfl⟩

theorem rPages (w : World)  : Still Tryd.prog 60 #[.pointer none] w (.int .i64 0) := by
  have CM := Lib.hid (rmade w)
  go_enter Tryd.func60, Tryd.ntmps60
  go_wp2_with (first | (go_at_call 50; with_reducible refine Still.use CM.out ?_))
  go_ret
  exact ⟨rfl, rfl⟩

theorem rcount (w : World) (a : Int) : Still Tryd.prog 75 #[.pointer none, .int .i64 a] w (.int .i64 0) := by
  have CM := Lib.hid (rmade w)
  go_enter Tryd.func75, Tryd.ntmps75
  go_wp2_with (first | (go_at_call 50; with_reducible refine Still.use CM.out ?_))
  go_ret
  exact ⟨rfl, rfl⟩

theorem rMapped (w : World)  : Still Tryd.prog 61 #[.pointer none] w (.int .i64 0) := by
  have CC := Lib.hid (fun a => rcount w a)
  go_enter Tryd.func61, Tryd.ntmps61
  go_wp2_with (first | (go_at_call 75; with_reducible refine Still.use (CC.out _) ?_))
  go_ret
  exact ⟨rfl, rfl⟩

theorem rDirty (w : World)  : Still Tryd.prog 62 #[.pointer none] w (.int .i64 0) := by
  have CC := Lib.hid (fun a => rcount w a)
  go_enter Tryd.func62, Tryd.ntmps62
  go_wp2_with (first | (go_at_call 75; with_reducible refine Still.use (CC.out _) ?_))
  go_ret
  exact ⟨rfl, rfl⟩

theorem rPeak (w : World)  : Still Tryd.prog 63 #[.pointer none] w (.int .i64 0) := by
  have CM := Lib.hid (rmade w)
  go_enter Tryd.func63, Tryd.ntmps63
  go_wp2_with (first | (go_at_call 50; with_reducible refine Still.use CM.out ?_))
  go_ret
  exact ⟨rfl, rfl⟩

theorem nInts (w : World) : Still Tryd.prog 57 #[.slice none 0 0, .slice none 0 0] w (.bool true) := by
  go_enter Tryd.func57, Tryd.ntmps57
  go_wp2_with fail
  go_loop [5] (fun t => t = .int .i64 0) (fun _ => 0)
  case atStart => rfl
  case round =>
    obtain rfl := hrel
    go_wp2_with fail
    go_ret
    exact ⟨rfl, rfl⟩

theorem nRunsEq (w : World) : Still Tryd.prog 64 #[.slice none 0 0, .slice none 0 0] w (.bool true) := by
  go_enter Tryd.func64, Tryd.ntmps64
  go_wp2_with fail
  go_loop [5] (fun t => t = .int .i64 0) (fun _ => 0)
  case atStart => rfl
  case round =>
    obtain rfl := hrel
    go_wp2_with fail
    go_ret
    exact ⟨rfl, rfl⟩

end Go.Proofs.YtmalmkccgjeboaaDoor

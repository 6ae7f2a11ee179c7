/- A list that nobody made, and the reference's at nil. -/
import Derived.Test.YtlmjelcnldlagaaZMH
set_option linter.unusedVariables false
set_option linter.unusedSimpArgs false
namespace Go.Proofs.Ytlmjelcnldlagaa
open Go.RowKit

def LUn (w : World) (v : Value) : Prop := v = .pointer none ∨ ∃ p, v = .pointer (some ⟨p, 0, none⟩) ∧ Blk w p 68 #[.int .i64 0, .int .i64 0, .int .i64 0, .slice none 0 0]
theorem LUn.grew {w w' : World} {v : Value} (h : LUn w v) (ho : Only [] w w') : LUn w' v := by
  rcases h with rfl | ⟨p, rfl, h⟩
  · exact .inl rfl
  · exact .inr ⟨p, rfl, h.only ho (by simp)⟩
theorem lun_nil (w : World) : LUn w (.pointer none) := .inl rfl

theorem lmade_un {w : World} {v : Value} (h : LUn w v) : Still Try.prog 37 #[v] w (.bool false) := by
  rcases h with rfl | ⟨p, rfl, h⟩
  · go_enter Try.func37, Try.ntmps37
    go_wp2_with fail
    go_ret
    exact ⟨rfl, rfl⟩
  · have z0 := h.cell_ 0 rfl
    clear h
    go_enter Try.func37, Try.ntmps37
    go_wp2_with fail
    go_ret
    exact ⟨rfl, rfl⟩

theorem lAdd_un {w : World} {v : Value} (h : LUn w v) (a : Int) : Still Try.prog 23 #[v, .int .i64 a] w (.int .i64 5) := by
  go_enter Try.func23, Try.ntmps23
  go_wp2_with (first | (go_at_call 37; with_reducible refine Still.use (lmade_un h) ?_))
  go_ret
  exact ⟨rfl, rfl⟩
theorem lTake_un {w : World} {v : Value} (h : LUn w v) (a : Int) : Still Try.prog 21 #[v, .int .i64 a] w (.tuple #[.slice none 0 0, .int .i64 5]) := by
  go_enter Try.func21, Try.ntmps21
  go_wp2_with (first | (go_at_call 37; with_reducible refine Still.use (lmade_un h) ?_))
  go_ret2
  exact ⟨rfl, rfl⟩
theorem lPut_un {w : World} {v : Value} (h : LUn w v) (x : Value) : Still Try.prog 17 #[v, x] w (.tuple #[.slice none 0 0, .int .i64 5]) := by
  go_enter Try.func17, Try.ntmps17
  go_wp2_with (first | (go_at_call 37; with_reducible refine Still.use (lmade_un h) ?_))
  go_ret2
  exact ⟨rfl, rfl⟩
theorem lSweep_un {w : World} {v : Value} (h : LUn w v) : Grew Try.prog 18 #[v] w (.slice none 0 0) := by
  go_enter Try.func18, Try.ntmps18
  go_wp2_with (first | (go_at_call 37; with_reducible refine Still.use (lmade_un h) ?_))
  go_ret
  exact ⟨rfl, Only.refl _ _⟩
theorem lFind_un {w : World} {v : Value} (h : LUn w v) (a : Int) : Still Try.prog 52 #[v, .int .i64 a] w (.tuple #[.int .i64 0, .int .i64 5]) := by
  go_enter Try.func52, Try.ntmps52
  go_wp2_with (first | (go_at_call 37; with_reducible refine Still.use (lmade_un h) ?_))
  go_ret2
  exact ⟨rfl, rfl⟩
theorem lIsTaken_un {w : World} {v : Value} (h : LUn w v) (a : Int) : Still Try.prog 39 #[v, .int .i64 a] w (.tuple #[.bool false, .int .i64 5]) := by
  go_enter Try.func39, Try.ntmps39
  go_wp2_with (first | (go_at_call 37; with_reducible refine Still.use (lmade_un h) ?_))
  go_ret2
  exact ⟨rfl, rfl⟩
theorem lTaken_un {w : World} {v : Value} (h : LUn w v) : Still Try.prog 27 #[v] w (.int .i64 0) := by
  go_enter Try.func27, Try.ntmps27
  go_wp2_with (first | (go_at_call 37; with_reducible refine Still.use (lmade_un h) ?_))
  go_ret
  exact ⟨rfl, rfl⟩
theorem lRoom_un {w : World} {v : Value} (h : LUn w v) : Still Try.prog 22 #[v] w (.int .i64 0) := by
  go_enter Try.func22, Try.ntmps22
  go_wp2_with (first | (go_at_call 37; with_reducible refine Still.use (lmade_un h) ?_))
  go_ret
  exact ⟨rfl, rfl⟩
theorem lSpans_un {w : World} {v : Value} (h : LUn w v) : Still Try.prog 16 #[v] w (.slice none 0 0) := by
  go_enter Try.func16, Try.ntmps16
  go_wp2_with (first | (go_at_call 37; with_reducible refine Still.use (lmade_un h) ?_))
  go_ret
  exact ⟨rfl, rfl⟩
theorem lClass_un {w : World} {v : Value} (h : LUn w v) : Grew Try.prog 45 #[v] w (.agg #[.int .i64 0, .int .i64 0, .int .i64 0]) := by
  go_enter Try.func45, Try.ntmps45
  go_wp2_with (first | (go_at_call 37; refine Still.use (lmade_un (h.grew ((Only.refl [] w).alloc _))) ?_))
  exact bodyPost_ret (v := .agg #[.int .i64 0, .int .i64 0, .int .i64 0]) (by simp [results, Try.results45, go_sem]) rfl ⟨rfl, (Only.refl [] w).alloc _⟩
theorem lClone_un {w : World} {v : Value} (h : LUn w v) : Still Try.prog 33 #[v] w (.pointer none) := by
  go_enter Try.func33, Try.ntmps33
  go_wp2_with (first | (go_at_call 37; with_reducible refine Still.use (lmade_un h) ?_))
  go_ret
  exact ⟨rfl, rfl⟩

theorem qmade_nil (w : World) : Still Try.prog 56 #[.pointer none] w (.bool false) := by
  go_enter Try.func56, Try.ntmps56
  go_wp2_with fail
  go_ret
  exact ⟨rfl, rfl⟩
theorem qAdd_un (w : World) (a : Int) : Still Try.prog 58 #[.pointer none, .int .i64 a] w (.int .i64 5) := by
  go_enter Try.func58, Try.ntmps58
  go_wp2_with (first | (go_at_call 56; with_reducible refine Still.use (qmade_nil _) ?_))
  go_ret
  exact ⟨rfl, rfl⟩
theorem qTake_un (w : World) (a : Int) : Still Try.prog 59 #[.pointer none, .int .i64 a] w (.tuple #[.slice none 0 0, .int .i64 5]) := by
  go_enter Try.func59, Try.ntmps59
  go_wp2_with (first | (go_at_call 56; with_reducible refine Still.use (qmade_nil _) ?_))
  go_ret2
  exact ⟨rfl, rfl⟩
theorem qPut_un (w : World) (x : Value) : Still Try.prog 60 #[.pointer none, x] w (.tuple #[.slice none 0 0, .int .i64 5]) := by
  go_enter Try.func60, Try.ntmps60
  go_wp2_with (first | (go_at_call 56; with_reducible refine Still.use (qmade_nil _) ?_))
  go_ret2
  exact ⟨rfl, rfl⟩
theorem qSweep_un (w : World) : Still Try.prog 61 #[.pointer none] w (.slice none 0 0) := by
  go_enter Try.func61, Try.ntmps61
  go_wp2_with (first | (go_at_call 56; with_reducible refine Still.use (qmade_nil _) ?_))
  go_ret
  exact ⟨rfl, rfl⟩
theorem qFind_un (w : World) (a : Int) : Still Try.prog 62 #[.pointer none, .int .i64 a] w (.tuple #[.int .i64 0, .int .i64 5]) := by
  go_enter Try.func62, Try.ntmps62
  go_wp2_with (first | (go_at_call 56; with_reducible refine Still.use (qmade_nil _) ?_))
  go_ret2
  exact ⟨rfl, rfl⟩
theorem qIsTaken_un (w : World) (a : Int) : Still Try.prog 63 #[.pointer none, .int .i64 a] w (.tuple #[.bool false, .int .i64 5]) := by
  go_enter Try.func63, Try.ntmps63
  go_wp2_with (first | (go_at_call 56; with_reducible refine Still.use (qmade_nil _) ?_))
  go_ret2
  exact ⟨rfl, rfl⟩
theorem qTaken_un (w : World) : Still Try.prog 65 #[.pointer none] w (.int .i64 0) := by
  go_enter Try.func65, Try.ntmps65
  go_wp2_with (first | (go_at_call 56; with_reducible refine Still.use (qmade_nil _) ?_))
  go_ret
  exact ⟨rfl, rfl⟩
theorem qRoom_un (w : World) : Still Try.prog 64 #[.pointer none] w (.int .i64 0) := by
  go_enter Try.func64, Try.ntmps64
  go_wp2_with (first | (go_at_call 56; with_reducible refine Still.use (qmade_nil _) ?_))
  go_ret
  exact ⟨rfl, rfl⟩
theorem qSpans_un (w : World) : Still Try.prog 67 #[.pointer none] w (.slice none 0 0) := by
  go_enter Try.func67, Try.ntmps67
  go_wp2_with (first | (go_at_call 56; with_reducible refine Still.use (qmade_nil _) ?_))
  go_ret
  exact ⟨rfl, rfl⟩
theorem qClass_un (w : World) : Grew Try.prog 66 #[.pointer none] w (.agg #[.int .i64 0, .int .i64 0, .int .i64 0]) := by
  go_enter Try.func66, Try.ntmps66
  go_wp2_with (first | (go_at_call 56; refine Still.use (qmade_nil _) ?_))
  exact bodyPost_ret (v := .agg #[.int .i64 0, .int .i64 0, .int .i64 0]) (by simp [results, Try.results66, go_sem]) rfl ⟨rfl, (Only.refl [] w).alloc _⟩
theorem qClone_un (w : World) : Still Try.prog 34 #[.pointer none] w (.pointer none) := by
  go_enter Try.func34, Try.ntmps34
  go_wp2_with (first | (go_at_call 56; with_reducible refine Still.use (qmade_nil _) ?_))
  go_ret
  exact ⟨rfl, rfl⟩

theorem ints_nil (w : World) : Grew Try.prog 28 #[.slice none 0 0, .slice none 0 0] w (.bool true) := (ints_same w none none 0 0 0 [] ⟨rfl, fun h => absurd h (by omega)⟩ ⟨rfl, fun h => absurd h (by omega)⟩ (by omega)).grew
theorem runs_nil (w : World) : Grew Try.prog 30 #[.slice none 0 0, .slice none 0 0] w (.bool true) := Runs_eq w _ _ 0 [] ⟨none, 0, rfl, fun h => absurd h (by omega)⟩ ⟨none, 0, rfl, fun h => absurd h (by omega)⟩ (by omega)

set_option maxRecDepth 100000 in
set_option maxHeartbeats 4000000 in
theorem lplay_un {w : World} {v : Value} (h : LUn w v) (x : Ac7) : Grew Try.prog 35 #[v, .pointer none, x.val] w (.bool true) := by
  obtain ⟨k, a, B, n, cap, o⟩ := x
  unfold Ac7.val
  dsimp only
  have h1 := h.grew ((Only.refl [] w).alloc (.cells #[.int .i64 k, .int .i64 a, .slice B n cap] 47))
  have ho1 := (Only.refl [] w).alloc (.cells #[.int .i64 k, .int .i64 a, .slice B n cap] 47)
  have b1 := Blk.new w 47 #[.int .i64 k, .int .i64 a, .slice B n cap]
  by_cases k0 : k = 0
  · subst k0
    go_enter Try.func35, Try.ntmps35
    go_wp2_with fail
    have b1d := b1.drew
    have h1d := h1.grew (Only.refl [] _).drew
    go_region_held3 (fun w' => w'.cell? ⟨w.heap.size, 0, none⟩ = some (.int .i64 0) ∧ w'.cell? ⟨w.heap.size, 1, none⟩ = some (.int .i64 a))
      (refine ⟨Blk.cell_ (t := 47) (cs := #[.int .i64 0, .int .i64 a, .slice B n cap]) ?_ 0 rfl, Blk.cell_ (t := 47) (cs := #[.int .i64 0, .int .i64 a, .slice B n cap]) ?_ 1 rfl⟩ <;> assumption)
      (first | (go_at_call 23; with_reducible refine Still.use (lAdd_un h1d a) ?_) | (go_at_call 58; with_reducible refine Still.use (qAdd_un _ a) ?_))
    go_wp2
    go_ret
    exact ⟨rfl, ho1.drew⟩
  have d0 : (k == 0) = false := beq_eq_false_iff_ne.2 k0
  by_cases k1 : k = 1
  · subst k1
    go_enter Try.func35, Try.ntmps35
    go_wp2_with (first | (go_at_call 21; with_reducible refine Still.use (lTake_un h1 a) ?_) | (go_at_call 59; with_reducible refine Still.use (qTake_un _ a) ?_) | (go_at_call 28; with_reducible refine Grew.use (ints_nil _) (fun w3 ho3 => ?_)))
    go_ret
    exact ⟨rfl, ho1.trans ho3⟩
  have d1 : (k == 1) = false := beq_eq_false_iff_ne.2 k1
  by_cases k2 : k = 2
  · subst k2
    go_enter Try.func35, Try.ntmps35
    go_wp2_with (first | (go_at_call 17; with_reducible refine Still.use (lPut_un h1 _) ?_) | (go_at_call 60; with_reducible refine Still.use (qPut_un _ _) ?_) | (go_at_call 30; with_reducible refine Grew.use (runs_nil _) (fun w3 ho3 => ?_)))
    go_ret
    exact ⟨rfl, ho1.trans ho3⟩
  have d2 : (k == 2) = false := beq_eq_false_iff_ne.2 k2
  by_cases k3 : k = 3
  · subst k3
    go_enter Try.func35, Try.ntmps35
    go_wp2_with (first | (go_at_call 18; with_reducible refine Grew.use (lSweep_un h1) (fun w2 ho2 => ?_)) | (go_at_call 61; with_reducible refine Still.use (qSweep_un _) ?_) | (go_at_call 30; with_reducible refine Grew.use (runs_nil _) (fun w3 ho3 => ?_)))
    go_ret
    exact ⟨rfl, (ho1.trans ho2).trans ho3⟩
  have d3 : (k == 3) = false := beq_eq_false_iff_ne.2 k3
  by_cases k4 : k = 4
  · subst k4
    go_enter Try.func35, Try.ntmps35
    go_wp2_with (first | (go_at_call 52; with_reducible refine Still.use (lFind_un h1 a) ?_) | (go_at_call 62; with_reducible refine Still.use (qFind_un _ a) ?_))
    go_ret
    exact ⟨rfl, ho1⟩
  have d4 : (k == 4) = false := beq_eq_false_iff_ne.2 k4
  by_cases k5 : k = 5
  · subst k5
    go_enter Try.func35, Try.ntmps35
    go_wp2_with (first | (go_at_call 39; with_reducible refine Still.use (lIsTaken_un h1 a) ?_) | (go_at_call 63; with_reducible refine Still.use (qIsTaken_un _ a) ?_))
    go_ret
    exact ⟨rfl, ho1⟩
  have d5 : (k == 5) = false := beq_eq_false_iff_ne.2 k5
  clear k0 k1 k2 k3 k4 k5
  go_enter Try.func35, Try.ntmps35
  go_wp2_with fail
  go_ret
  exact ⟨rfl, ho1⟩

set_option maxRecDepth 100000 in
set_option maxHeartbeats 4000000 in
theorem lSame_un {w : World} {v : Value} (h : LUn w v) : Grew Try.prog 36 #[v, .pointer none] w (.bool true) := by
  go_enter Try.func36, Try.ntmps36
  go_wp2_with (first
    | (go_at_call 22; with_reducible refine Still.use (lRoom_un h) ?_) | (go_at_call 64; with_reducible refine Still.use (qRoom_un _) ?_)
    | (go_at_call 27; with_reducible refine Still.use (lTaken_un h) ?_) | (go_at_call 65; with_reducible refine Still.use (qTaken_un _) ?_)
    | (go_at_call 45; with_reducible refine Grew.use (lClass_un h) (fun w2 ho2 => ?_); have h2 := h.grew ho2) | (go_at_call 66; with_reducible refine Grew.use (qClass_un _) (fun w3 ho3 => ?_); have h3 := h2.grew ho3)
    | (go_at_call 16; with_reducible refine Still.use (lSpans_un h3) ?_) | (go_at_call 67; with_reducible refine Still.use (qSpans_un _) ?_)
    | (go_at_call 30; with_reducible refine Grew.use (runs_nil _) (fun w4 ho4 => ?_)))
  go_loopw [6] (fun t wr => t = .int .i64 0 ∧ wr = w4) (fun _ _ => 0)
  case atStart => exact ⟨rfl, rfl⟩
  case round =>
    obtain ⟨rfl, rfl⟩ := hrel
    go_wp2_with fail
    go_ret
    exact ⟨rfl, (ho2.trans ho3).trans ho4⟩
end Go.Proofs.Ytlmjelcnldlagaa

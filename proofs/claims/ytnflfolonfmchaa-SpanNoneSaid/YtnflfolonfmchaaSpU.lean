/- A span that nobody made. -/
import Derived.Test.YtnflfolonfmchaaSpY0
set_option linter.unusedVariables false
set_option linter.unusedSimpArgs false
namespace Go.Proofs.Ytnflfolonfmchaa
open Go.RowKit

theorem Unmade.only {w w' : World} {v : Value} {l : List Nat} (h : Unmade w v) (ho : Only l w w') (hn : ∀ p, v = .pointer (some ⟨p, 0, none⟩) → p ∉ l) : Unmade w' v := by
  rcases h with rfl | ⟨p, rfl, h⟩
  · exact .inl rfl
  · exact .inr ⟨p, rfl, h.only ho (hn p rfl)⟩
theorem Unmade.grew {w w' : World} {v : Value} (h : Unmade w v) (ho : Only [] w w') : Unmade w' v := h.only ho (by simp)
theorem unmade_nil (w : World) : Unmade w (.pointer none) := .inl rfl

set_option maxHeartbeats 800000 in
theorem Index_un {w v} (h : Unmade w v) (a : Int) : Still Try.prog 14 #[v, .int .i64 a] w (.tuple #[.int .i64 0, .int .i64 5]) := by
  go_enter Try.func14, Try.ntmps14
  go_wp2_with (first | (go_at_call 32; refine Still.use (made_un h) ?_))
  go_ret2
  exact ⟨rfl, rfl⟩

set_option maxHeartbeats 800000 in
theorem object_un {w v} (h : Unmade w v) (a : Int) : Still Try.prog 34 #[v, .int .i64 a] w (.tuple #[.int .i64 0, .int .i64 5]) := by
  go_enter Try.func34, Try.ntmps34
  go_wp2_with (first | (go_at_call 14; refine Still.use (Index_un h a) ?_))
  go_ret2
  exact ⟨rfl, rfl⟩

set_option maxHeartbeats 800000 in
theorem IsTaken_un {w v} (h : Unmade w v) (a : Int) : Still Try.prog 16 #[v, .int .i64 a] w (.tuple #[.bool false, .int .i64 5]) := by
  go_enter Try.func16, Try.ntmps16
  go_wp2_with (first | (go_at_call 34; refine Still.use (object_un h a) ?_))
  go_ret2
  exact ⟨rfl, rfl⟩

set_option maxHeartbeats 800000 in
theorem Take_un {w v} (h : Unmade w v) : Still Try.prog 22 #[v] w (.tuple #[.int .i64 0, .int .i64 5]) := by
  go_enter Try.func22, Try.ntmps22
  go_wp2_with (first | (go_at_call 32; refine Still.use (made_un h) ?_))
  go_ret2
  exact ⟨rfl, rfl⟩

set_option maxHeartbeats 800000 in
theorem Put_un {w v} (h : Unmade w v) (a : Int) : Still Try.prog 23 #[v, .int .i64 a] w (.int .i64 5) := by
  go_enter Try.func23, Try.ntmps23
  go_wp2_with (first | (go_at_call 34; refine Still.use (object_un h a) ?_))
  go_ret
  exact ⟨rfl, rfl⟩

set_option maxHeartbeats 800000 in
theorem Objects_un {w v} (h : Unmade w v) : Still Try.prog 12 #[v] w (.int .i64 0) := by
  go_enter Try.func12, Try.ntmps12
  go_wp2_with (first | (go_at_call 32; refine Still.use (made_un h) ?_))
  go_ret
  exact ⟨rfl, rfl⟩

set_option maxHeartbeats 800000 in
theorem Taken_un {w v} (h : Unmade w v) : Still Try.prog 20 #[v] w (.int .i64 0) := by
  go_enter Try.func20, Try.ntmps20
  go_wp2_with (first | (go_at_call 32; refine Still.use (made_un h) ?_))
  go_ret
  exact ⟨rfl, rfl⟩

set_option maxHeartbeats 800000 in
theorem Bits_un {w v} (h : Unmade w v) : Still Try.prog 18 #[v] w (.string ⟨#[]⟩) := by
  go_enter Try.func18, Try.ntmps18
  go_wp2_with (first | (go_at_call 32; refine Still.use (made_un h) ?_))
  go_ret
  exact ⟨rfl, rfl⟩

set_option maxHeartbeats 800000 in
theorem List_un {w v} (h : Unmade w v) : Still Try.prog 21 #[v] w (.slice none 0 0) := by
  go_enter Try.func21, Try.ntmps21
  go_wp2_with (first | (go_at_call 32; refine Still.use (made_un h) ?_))
  go_ret
  exact ⟨rfl, rfl⟩

set_option maxHeartbeats 800000 in
theorem Clone_un {w v} (h : Unmade w v) : Still Try.prog 24 #[v] w (.pointer none) := by
  go_enter Try.func24, Try.ntmps24
  go_wp2_with (first | (go_at_call 32; refine Still.use (made_un h) ?_))
  go_ret
  exact ⟨rfl, rfl⟩

set_option maxHeartbeats 800000 in
theorem rIndex_un (w : World) (a : Int) : Still Try.prog 43 #[.pointer none, .int .i64 a] w (.tuple #[.int .i64 0, .int .i64 5]) := by
  go_enter Try.func43, Try.ntmps43
  go_wp2_with (first | (go_at_call 40; refine Still.use (rmade_nil w) ?_))
  go_ret2
  exact ⟨rfl, rfl⟩

set_option maxHeartbeats 800000 in
theorem rIsTaken_un (w : World) (a : Int) : Still Try.prog 44 #[.pointer none, .int .i64 a] w (.tuple #[.bool false, .int .i64 5]) := by
  go_enter Try.func44, Try.ntmps44
  go_wp2_with (first | (go_at_call 40; refine Still.use (rmade_nil w) ?_))
  go_ret2
  exact ⟨rfl, rfl⟩

set_option maxHeartbeats 800000 in
theorem rTake_un (w : World) : Still Try.prog 41 #[.pointer none] w (.tuple #[.int .i64 0, .int .i64 5]) := by
  go_enter Try.func41, Try.ntmps41
  go_wp2_with (first | (go_at_call 40; refine Still.use (rmade_nil w) ?_))
  go_ret2
  exact ⟨rfl, rfl⟩

set_option maxHeartbeats 800000 in
theorem rPut_un (w : World) (a : Int) : Still Try.prog 42 #[.pointer none, .int .i64 a] w (.int .i64 5) := by
  go_enter Try.func42, Try.ntmps42
  go_wp2_with (first | (go_at_call 40; refine Still.use (rmade_nil w) ?_))
  go_ret
  exact ⟨rfl, rfl⟩

set_option maxHeartbeats 800000 in
theorem rObjects_un (w : World) : Still Try.prog 45 #[.pointer none] w (.int .i64 0) := by
  go_enter Try.func45, Try.ntmps45
  go_wp2_with (first | (go_at_call 40; refine Still.use (rmade_nil w) ?_))
  go_ret
  exact ⟨rfl, rfl⟩

set_option maxHeartbeats 800000 in
theorem rBits_un (w : World) : Still Try.prog 47 #[.pointer none] w (.string ⟨#[]⟩) := by
  go_enter Try.func47, Try.ntmps47
  go_wp2_with (first | (go_at_call 40; refine Still.use (rmade_nil w) ?_))
  go_ret
  exact ⟨rfl, rfl⟩

set_option maxHeartbeats 800000 in
theorem rList_un (w : World) : Still Try.prog 49 #[.pointer none] w (.slice none 0 0) := by
  go_enter Try.func49, Try.ntmps49
  go_wp2_with (first | (go_at_call 40; refine Still.use (rmade_nil w) ?_))
  go_ret
  exact ⟨rfl, rfl⟩

set_option maxHeartbeats 800000 in
theorem rTaken_un (w : World) : Still Try.prog 46 #[.pointer none] w (.int .i64 0) := by
  go_enter Try.func46, Try.ntmps46
  go_wp2_with (first | (go_at_call 49; refine Still.use (rList_un w) ?_))
  go_ret
  exact ⟨rfl, rfl⟩

set_option maxHeartbeats 800000 in
theorem rClone_un (w : World) : Still Try.prog 29 #[.pointer none] w (.pointer none) := by
  go_enter Try.func29, Try.ntmps29
  go_wp2_with (first | (go_at_call 40; refine Still.use (rmade_nil w) ?_))
  go_ret
  exact ⟨rfl, rfl⟩

set_option maxHeartbeats 800000 in
theorem Run_un {w v} (h : Unmade w v) : Grew Try.prog 25 #[v] w (.agg #[.int .i64 0, .int .i64 0]) := by
  go_enter Try.func25, Try.ntmps25
  go_wp2_with (first | (go_at_call 32; refine Still.use (made_un (h.grew ((Only.refl [] w).alloc _))) ?_))
  exact bodyPost_ret (v := .agg #[.int .i64 0, .int .i64 0]) (by simp [results, Try.results25, go_sem]) rfl ⟨rfl, (Only.refl [] w).alloc _⟩

set_option maxHeartbeats 800000 in
theorem Class_un {w v} (h : Unmade w v) : Grew Try.prog 26 #[v] w (.agg #[.int .i64 0, .int .i64 0, .int .i64 0]) := by
  go_enter Try.func26, Try.ntmps26
  go_wp2_with (first | (go_at_call 32; refine Still.use (made_un (h.grew ((Only.refl [] w).alloc _))) ?_))
  exact bodyPost_ret (v := .agg #[.int .i64 0, .int .i64 0, .int .i64 0]) (by simp [results, Try.results26, go_sem]) rfl ⟨rfl, (Only.refl [] w).alloc _⟩

set_option maxHeartbeats 800000 in
theorem rRun_un (w : World) : Grew Try.prog 50 #[.pointer none] w (.agg #[.int .i64 0, .int .i64 0]) := by
  go_enter Try.func50, Try.ntmps50
  go_wp2_with (first | (go_at_call 40; refine Still.use (rmade_nil _) ?_))
  exact bodyPost_ret (v := .agg #[.int .i64 0, .int .i64 0]) (by simp [results, Try.results50, go_sem]) rfl ⟨rfl, (Only.refl [] w).alloc _⟩

set_option maxHeartbeats 800000 in
theorem rClass_un (w : World) : Grew Try.prog 51 #[.pointer none] w (.agg #[.int .i64 0, .int .i64 0, .int .i64 0]) := by
  go_enter Try.func51, Try.ntmps51
  go_wp2_with (first | (go_at_call 40; refine Still.use (rmade_nil _) ?_))
  exact bodyPost_ret (v := .agg #[.int .i64 0, .int .i64 0, .int .i64 0]) (by simp [results, Try.results51, go_sem]) rfl ⟨rfl, (Only.refl [] w).alloc _⟩

set_option maxRecDepth 100000 in
set_option maxHeartbeats 4000000 in
theorem play_un {w v} (h : Unmade w v) (k a : Int) :
    Grew Try.prog 30 #[v, .pointer none, .agg #[.int .i64 k, .int .i64 a]] w (.bool true) := by
  have h1 := h.grew ((Only.refl [] w).alloc (.cells #[.int .i64 k, .int .i64 a] 37))
  have ho1 := (Only.refl [] w).alloc (.cells #[.int .i64 k, .int .i64 a] 37)
  have b1 := Blk.new w 37 #[.int .i64 k, .int .i64 a]
  by_cases k0 : k = 0
  · subst k0
    go_enter Try.func30, Try.ntmps30
    go_wp2_with (first | (go_at_call 22; refine Still.use (Take_un h1) ?_) | (go_at_call 41; refine Still.use (rTake_un _) ?_))
    go_ret
    exact ⟨rfl, ho1⟩
  · have d0 : (k == 0) = false := beq_eq_false_iff_ne.2 k0
    by_cases k1 : k = 1
    · subst k1
      go_enter Try.func30, Try.ntmps30
      go_wp2_with fail
      have b1d := b1.drew
      have h1d := h1.grew (Only.refl [] _).drew
      go_region_held3 (fun w' => w'.cell? ⟨w.heap.size, 0, none⟩ = some (.int .i64 1) ∧ w'.cell? ⟨w.heap.size, 1, none⟩ = some (.int .i64 a))
        (refine ⟨Blk.cell_ (t := 37) (cs := #[.int .i64 1, .int .i64 a]) ?_ 0 rfl, Blk.cell_ (t := 37) (cs := #[.int .i64 1, .int .i64 a]) ?_ 1 rfl⟩ <;> assumption)
        (first | (go_at_call 23; refine Still.use (Put_un h1d a) ?_) | (go_at_call 42; refine Still.use (rPut_un _ a) ?_))
      go_wp2
      go_ret
      exact ⟨rfl, ho1.drew⟩
    · have d1 : (k == 1) = false := beq_eq_false_iff_ne.2 k1
      by_cases k2 : k = 2
      · subst k2
        go_enter Try.func30, Try.ntmps30
        go_wp2_with (first | (go_at_call 14; refine Still.use (Index_un h1 a) ?_) | (go_at_call 43; refine Still.use (rIndex_un _ a) ?_))
        go_ret
        exact ⟨rfl, ho1⟩
      · have d2 : (k == 2) = false := beq_eq_false_iff_ne.2 k2
        by_cases k3 : k = 3
        · subst k3
          go_enter Try.func30, Try.ntmps30
          go_wp2_with (first | (go_at_call 16; refine Still.use (IsTaken_un h1 a) ?_) | (go_at_call 44; refine Still.use (rIsTaken_un _ a) ?_))
          go_ret
          exact ⟨rfl, ho1⟩
        · have d3 : (k == 3) = false := beq_eq_false_iff_ne.2 k3
          clear k0 k1 k2 k3
          go_enter Try.func30, Try.ntmps30
          go_wp2_with fail
          go_ret
          exact ⟨rfl, ho1⟩

set_option maxRecDepth 100000 in
set_option maxHeartbeats 4000000 in
theorem Same_un {w v} (h : Unmade w v) : Grew Try.prog 31 #[v, .pointer none] w (.bool true) := by
  have hi := ints_same w none none 0 0 0 [] ⟨rfl, fun h => absurd h (by omega)⟩ ⟨rfl, fun h => absurd h (by omega)⟩ (by omega)
  go_enter Try.func31, Try.ntmps31
  go_wp2_with (first
    | (go_at_call 12; refine Still.use (Objects_un h) ?_) | (go_at_call 45; refine Still.use (rObjects_un _) ?_)
    | (go_at_call 20; refine Still.use (Taken_un h) ?_) | (go_at_call 46; refine Still.use (rTaken_un _) ?_)
    | (go_at_call 18; refine Still.use (Bits_un h) ?_) | (go_at_call 47; refine Still.use (rBits_un _) ?_)
    | (go_at_call 21; refine Still.use (List_un h) ?_) | (go_at_call 49; refine Still.use (rList_un _) ?_)
    | (go_at_call 48; refine Quiet.use hi (fun n => ?_); have h1 := h.grew ((Only.refl [] w).drewN n))
    | (go_at_call 25; refine Grew.use (Run_un h1) (fun w2 ho2 => ?_); have h2 := h1.grew ho2) | (go_at_call 50; refine Grew.use (rRun_un _) (fun w3 ho3 => ?_); have h3 := h2.grew ho3)
    | (go_at_call 26; refine Grew.use (Class_un h3) (fun w4 ho4 => ?_)) | (go_at_call 51; refine Grew.use (rClass_un _) (fun w5 ho5 => ?_)))
  go_ret
  exact ⟨rfl, ((((Only.refl [] w).drewN n).trans ho2).trans ho3).trans (ho4.trans ho5)⟩
end Go.Proofs.Ytnflfolonfmchaa

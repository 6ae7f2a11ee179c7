/- The reference's Runs; ints and runs compared. -/
import Derived.Test.YtmalmkccgjeboaaDoorWI
set_option linter.unusedVariables false
set_option linter.unusedSimpArgs false
namespace Go.Proofs.YtmalmkccgjeboaaDoor
open Go.RowKit

/-- A slice of runs reads as l. -/
def ReadsR (w : World) (v : Value) (n : Nat) (l : List (Int × Int)) : Prop := ∃ A c, v = .slice A n c ∧ (0 < n → ∃ g, A = some ⟨g, 0, none⟩ ∧ ∀ j, j < n → w.cell? ⟨g, j * 2, none⟩ = some (.int .i64 (rAt l j).1) ∧ w.cell? ⟨g, j * 2 + 1, none⟩ = some (.int .i64 (rAt l j).2))
theorem ReadsR.still {w w' : World} {v : Value} {n : Nat} {l : List (Int × Int)} (h : ReadsR w v n l) (ho : Only [] w w') : ReadsR w' v n l := by
  obtain ⟨A, c, rfl, h⟩ := h
  refine ⟨A, c, rfl, fun h0 => ?_⟩
  obtain ⟨g, rfl, hc⟩ := h h0
  exact ⟨g, rfl, fun j hj => ⟨(ho.cell (World.block_lt_of_cell? w _ (hc j hj).1) (by simp)).trans (hc j hj).1, (ho.cell (World.block_lt_of_cell? w _ (hc j hj).2) (by simp)).trans (hc j hj).2⟩⟩
theorem own_readsR {w : World} {base n : Nat} {v : Value} {e : TypeId} {l : List (Int × Int)} (h : w.ownsRow base e 2 v n (cellsR l)) (hn : n = l.length) : ReadsR w v n l := by
  rcases Nat.eq_zero_or_pos n with h0 | h0
  · obtain ⟨A, c, rfl, _⟩ := own_slice h
    exact ⟨A, c, rfl, fun h => absurd h (by omega)⟩
  · obtain ⟨g, c, rfl, _⟩ := own_form h h0
    exact ⟨_, c, rfl, fun _ => ⟨g, rfl, fun j hj => by obtain ⟨a1, a2, _⟩ := own_runs h hn hj; exact ⟨a1, a2⟩⟩⟩

set_option maxHeartbeats 1600000 in
theorem Ints_eq (w : World) (u v : Value) (n : Nat) (f : Nat → Int) (hu : ReadsV w u n f) (hv : ReadsV w v n f) (hn : n ≤ 1000000) : Grew Tryd.prog 57 #[u, v] w (.bool true) := by
  obtain ⟨A, c, rfl, h1⟩ := hu
  obtain ⟨B, d, rfl, h2⟩ := hv
  have H1 := Lib.hid h1
  have H2 := Lib.hid h2
  clear h1 h2
  go_enter Tryd.func57, Tryd.ntmps57
  go_wp2_with fail
  go_loopw [5] (fun t wr => ∃ k : Nat, k ≤ n ∧ t = .int .i64 k ∧ Only [] w wr) (fun t _ => n - (intOf t).toNat)
  case atStart => exact ⟨0, Nat.zero_le _, rfl, Only.refl _ _⟩
  case round =>
    obtain ⟨k, hk, rfl, ho⟩ := hrel
    by_cases hlt : k < n
    · obtain ⟨a1, rfl, hc1⟩ := H1.out (by omega)
      obtain ⟨a2, rfl, hc2⟩ := H2.out (by omega)
      have d1 : decide ((k : Int) < n) = true := decide_eq_true (by omega)
      have x1 := (ho.cell (World.block_lt_of_cell? w _ (hc1 k hlt)) (by simp)).trans (hc1 k hlt)
      have x2 := (ho.cell (World.block_lt_of_cell? w _ (hc2 k hlt)) (by simp)).trans (hc2 k hlt)
      clear hc1 hc2
      generalize f k = x at x1 x2
      go_wp2_with fail
      go_quiet (fail)
      go_wp2_with fail
      go_roundw
      case rel => exact ⟨k + 1, by omega, by go_num, ho.drewN _⟩
      case measure => simp [intOf]; omega
    · have e : k = n := by omega
      subst e
      have d1 : decide ((k : Int) < k) = false := decide_eq_false (by omega)
      go_wp2_with fail
      go_ret
      exact ⟨rfl, ho⟩

set_option maxHeartbeats 1600000 in
theorem Runs_eq (w : World) (u v : Value) (n : Nat) (l : List (Int × Int)) (hu : ReadsR w u n l) (hv : ReadsR w v n l) (hn : n ≤ 1000000) : Grew Tryd.prog 64 #[u, v] w (.bool true) := by
  obtain ⟨A, c, rfl, h1⟩ := hu
  obtain ⟨B, d, rfl, h2⟩ := hv
  have H1 := Lib.hid h1
  have H2 := Lib.hid h2
  clear h1 h2
  go_enter Tryd.func64, Tryd.ntmps64
  go_wp2_with fail
  go_loopw [5] (fun t wr => ∃ k : Nat, k ≤ n ∧ t = .int .i64 k ∧ Only [] w wr) (fun t _ => n - (intOf t).toNat)
  case atStart => exact ⟨0, Nat.zero_le _, rfl, Only.refl _ _⟩
  case round =>
    obtain ⟨k, hk, rfl, ho⟩ := hrel
    by_cases hlt : k < n
    · obtain ⟨a1, rfl, hc1⟩ := H1.out (by omega)
      obtain ⟨a2, rfl, hc2⟩ := H2.out (by omega)
      have d1 : decide ((k : Int) < n) = true := decide_eq_true (by omega)
      have x1 := (ho.cell (World.block_lt_of_cell? w _ (hc1 k hlt).1) (by simp)).trans (hc1 k hlt).1
      have x2 := (ho.cell (World.block_lt_of_cell? w _ (hc2 k hlt).1) (by simp)).trans (hc2 k hlt).1
      have y1 := (ho.cell (World.block_lt_of_cell? w _ (hc1 k hlt).2) (by simp)).trans (hc1 k hlt).2
      have y2 := (ho.cell (World.block_lt_of_cell? w _ (hc2 k hlt).2) (by simp)).trans (hc2 k hlt).2
      clear hc1 hc2
      generalize (rAt l k).1 = x at x1 x2
      generalize (rAt l k).2 = y at y1 y2
      go_wp2_with fail
      go_quiet (fail)
      go_wp2_with fail
      go_roundw
      case rel => exact ⟨k + 1, by omega, by go_num, ho.drewN _⟩
      case measure => simp [intOf]; omega
    · have e : k = n := by omega
      subst e
      have d1 : decide ((k : Int) < k) = false := decide_eq_false (by omega)
      go_wp2_with fail
      go_ret
      exact ⟨rfl, ho⟩

section
variable {w : World} {p q1 q2 c1 c2 : Nat} {m : SpM}
set_option maxRecDepth 100000 in
set_option maxHeartbeats 4000000 in
theorem xRuns (h : RefAt w p q1 q2 c1 c2 m) (v : Int) :
    Calls Tryd.prog 65 #[.pointer (some ⟨p, 0, none⟩), .int .i64 v] w fun e w' => ∃ x, e = .returned x ∧ Only [] w w' ∧ w'.ownsRow w.heap.size 64 2 x (runsTo m.st v m.n).length (cellsR (runsTo m.st v m.n)) := by
  have CM := Lib.hid (xmade h)
  have HOK := Lib.hid (fun k => runsTo_ok m.st v k)
  have HB := Lib.hid h.blk
  have HS := Lib.hid h.sts
  have n2 := h.n2
  have hk1 := h.k1
  clear h
  generalize hst : m.st = st at *
  clear hst
  generalize m.n = n at *
  obtain ⟨i0, hi, hz0, hz1, hz2⟩ := info_parts info_run
  go_enter Tryd.func65, Tryd.ntmps65
  go_wp2_with (first | (go_at_call 50; with_reducible refine Still.use CM.out ?_))
  clear CM
  go_loopw [5, 6] (fun u t wr => ∃ k : Nat, k ≤ n ∧ t = .int .i64 k ∧ Only [] w wr ∧ wr.ownsRow w.heap.size 64 2 u (runsTo st v k).length (cellsR (runsTo st v k))) (fun _ t _ => n - (intOf t).toNat)
  case atStart => exact ⟨0, Nat.zero_le _, rfl, Only.refl _ _, World.ownsRow_nil _ _ _ _⟩
  case round =>
    obtain ⟨k, hk, rfl, ho, hown⟩ := hrel
    have z0 := (HB.out.only ho (by simp)).cell_ 0 rfl
    by_cases hlt : k < n
    · have d1 : decide ((k : Int) < n) = true := decide_eq_true (by omega)
      have y0 := (HS.out.only ho (by simp)).cell (k := k) hlt
      have hl0 := (HOK.out k).len
      have HT := Lib.hid (HOK.out k).touch
      obtain ⟨L, hL⟩ : ∃ L, L = (runsTo st v k).length := ⟨_, rfl⟩
      obtain ⟨xs, hxs⟩ : ∃ xs, xs = cellsR (runsTo st v k) := ⟨_, rfl⟩
      rw [← hL, ← hxs] at hown
      rw [← hL] at hl0
      have HL := Lib.hid hL
      have HXS := Lib.hid hxs
      clear hL hxs
      have hsz := ho.size
      by_cases hkv : st k = v
      · have d2 : (st k == v) = true := beq_iff_eq.2 hkv
        have d3 : (st k != v) = false := by rw [hkv]; simp
        have HKV := Lib.hid hkv
        generalize hs : st k = s at y0 d2 d3
        clear hs hkv
        rcases Nat.eq_zero_or_pos L with e0 | h0
        · have HN : Hid (runsTo st v (k + 1) = runsTo st v k ++ [((k : Int), 1)]) := runsTo_new HKV.out (fun h => by have := (HT.out.1 h).1; rw [← HL.out] at this; omega)
          obtain ⟨A, c, rfl, _⟩ := own_slice hown
          have d4 : decide ((0 : Int) < (L : Int)) = false := decide_eq_false (by omega)
          have d5 : decide (0 < L) = false := decide_eq_false (by omega)
          clear e0
          go_wp2_with fail
          go_quiet (fail)
          have hownD := own_drewN hown nq
          have hoD := ho.drewN nq
          have hszD := hoD.size
          clear hown
          generalize wr.drewN nq = w4 at *
          go_wp2_with (first | (at_builtin; refine wpList_append_own _ rfl _ _ 61 rfl w.heap.size 64 i0 (.agg #[.int .i64 0, .int .i64 0]) 2 16 Tryd.underlying61 hi hz0 hz1 hz2 rfl (by decide) _ _ _ rfl (hownD.alloc _) ⟨w4.heap.size, 0, none⟩ 1 1 [.int .i64 k, .int .i64 1] rfl rfl (news_new w4 _ _) (by simp [Value.oneCell']) (by unfold maxLen; omega) (by omega) (by simp; omega) ?_; intro v1 w3 hown3 hg3 _))
          go_roundw
          case rel => exact ⟨k + 1, by omega, by go_num, (hoD.alloc _).grown hg3 (fun b hb => .inr (own_base hownD b hb)), by rw [HN.out, cellsR_append, List.length_append, ← HL.out, ← HXS.out]; exact hown3⟩
          case measure => simp [intOf]; omega
        · obtain ⟨g, c, rfl, hgb, hgl⟩ := own_form hown h0
          obtain ⟨N, rfl⟩ : ∃ N, L = N + 1 := ⟨L - 1, by omega⟩
          have HRN := Lib.hid (fun (W : World) (ho : W.ownsRow w.heap.size 64 2 (.slice (some ⟨g, 0, none⟩) (N + 1) c) (N + 1) xs) => own_runs (l := runsTo st v k) (by rw [← HXS.out]; exact ho) HL.out (show N < N + 1 by omega))
          have hbnd : 1 ≤ (rAt (runsTo st v k) N).2 ∧ 0 ≤ (rAt (runsTo st v k) N).1 ∧ (rAt (runsTo st v k) N).1 + (rAt (runsTo st v k) N).2 ≤ k := by
            have a1 := (HOK.out k).pos N (by rw [← HL.out]; omega)
            have a2 := (HOK.out k).lo N (by rw [← HL.out]; omega)
            have a3 := (HOK.out k).hi N (by rw [← HL.out]; omega)
            have a4 := (HOK.out k).hi (N + 1) (by rw [← HL.out]; omega)
            rw [endTo_succ] at a4
            omega
          have HB' : Hid (cellsR (bump (runsTo st v k)) = xs.set (N * 2 + 1) (.int .i64 ((rAt (runsTo st v k) N).2 + 1))) := by
            have := cellsR_bump (runsTo st v k) (by rw [← HL.out]; omega)
            rw [← HL.out, Nat.add_sub_cancel, ← HXS.out] at this
            exact this
          have HT2 : Hid ((0 < k ∧ st ((k : Int) - 1) = v) ↔ ((rAt (runsTo st v k) N).1 + (rAt (runsTo st v k) N).2 = k)) := by
            show _ ↔ _
            rw [HT.out, ← HL.out, endTo_succ]
            exact ⟨fun h => h.2, fun h => ⟨by omega, h⟩⟩
          obtain ⟨q0, qq1, qf⟩ := HRN.out _ hown
          obtain ⟨hb1, hb2, hb3⟩ := hbnd
          have d4 : decide ((0 : Int) < ((N + 1 : Nat) : Int)) = true := decide_eq_true (by omega)
          generalize (rAt (runsTo st v k) N).2 = bb at *
          generalize (rAt (runsTo st v k) N).1 = aa at *
          by_cases ht : aa + bb = k
          · have HN : Hid (runsTo st v (k + 1) = bump (runsTo st v k)) := runsTo_bump HKV.out (HT2.out.2 ht)
            have d5 : (aa + bb == (k : Int)) = true := beq_iff_eq.2 ht
            clear HT2 ht
            go_wp2_with fail
            go_quiet (fail)
            have hownD := own_drewN hown nq
            have hoD := ho.drewN nq
            clear hown q0 qq1 qf
            generalize wr.drewN nq = w4 at *
            obtain ⟨q0, qq1, qf⟩ := HRN.out _ hownD
            go_wp2_with fail
            go_roundw
            case rel => exact ⟨k + 1, by omega, by go_num, hoD.setCell (.inr hgb) _, by rw [HN.out, bump_len, ← HL.out, HB'.out]; exact own_set hownD _ _⟩
            case measure => simp [intOf]; omega
          · have HN : Hid (runsTo st v (k + 1) = runsTo st v k ++ [((k : Int), 1)]) := runsTo_new HKV.out (fun h => ht (HT2.out.1 h))
            have d5 : (aa + bb == (k : Int)) = false := beq_eq_false_iff_ne.2 ht
            clear HT2 ht
            go_wp2_with fail
            go_quiet (fail)
            have hownD := own_drewN hown nq
            have hoD := ho.drewN nq
            have hszD := hoD.size
            clear hown q0 qq1 qf
            generalize wr.drewN nq = w4 at *
            go_wp2_with (first | (at_builtin; refine wpList_append_own _ rfl _ _ 61 rfl w.heap.size 64 i0 (.agg #[.int .i64 0, .int .i64 0]) 2 16 Tryd.underlying61 hi hz0 hz1 hz2 rfl (by decide) _ _ _ rfl (hownD.alloc _) ⟨w4.heap.size, 0, none⟩ 1 1 [.int .i64 k, .int .i64 1] rfl rfl (news_new w4 _ _) (by simp [Value.oneCell']) (by unfold maxLen; omega) (by omega) (by simp; omega) ?_; intro v1 w3 hown3 hg3 _))
            go_roundw
            case rel => exact ⟨k + 1, by omega, by go_num, (hoD.alloc _).grown hg3 (fun b hb => .inr (own_base hownD b hb)), by rw [HN.out, cellsR_append, List.length_append, ← HL.out, ← HXS.out]; exact hown3⟩
            case measure => simp [intOf]; omega
      · have HN : Hid (runsTo st v (k + 1) = runsTo st v k) := runsTo_keep hkv
        have d2 : (st k == v) = false := beq_eq_false_iff_ne.2 hkv
        have d3 : (st k != v) = true := bne_iff_ne.2 hkv
        clear hkv
        generalize st k = s at y0 d2 d3
        go_wp2_with fail
        go_roundw
        case rel => exact ⟨k + 1, by omega, by go_num, ho, by rw [HN.out, ← HL.out, ← HXS.out]; exact hown⟩
        case measure => simp [intOf]; omega
    · have e : k = n := by omega
      subst e
      have d1 : decide ((k : Int) < k) = false := decide_eq_false (by omega)
      go_wp2_with fail
      go_ret
      exact ⟨_, rfl, ho, hown⟩
end
end Go.Proofs.YtmalmkccgjeboaaDoor

/- The reference's Make. -/
import Derived.Test.YtgicapdiiknbiaaSzT
set_option linter.unusedVariables false
set_option linter.unusedSimpArgs false
namespace Go.Proofs.Ytgicapdiiknbiaa
open Go.RowKit

/-- The sizes less than the greatest that the reference comes to. -/
def below (waste : Int) : Nat → Int → List Int
  | 0, _ => []
  | k + 1, s => if s < 512 then s :: below waste k (nextS waste s) else []
def allR (waste : Int) : List Cl := (below waste 65 8).map (classOf waste) ++ [classOf waste 512]
theorem below_end {waste s : Int} (k : Nat) (h : 512 ≤ s) : below waste k s = [] := by
  cases k with
  | zero => rfl
  | succ k => unfold below; rw [if_neg (by omega)]
theorem below_length (waste : Int) : ∀ (f : Nat) (s : Int), (below waste f s).length ≤ f
  | 0, _ => Nat.le_refl _
  | f + 1, s => by
    unfold below
    split
    · simpa using below_length waste f _
    · simp
theorem allR_eq (waste : Int) (h1 : 2 ≤ waste) (h2 : waste ≤ 16) : allR waste = allC waste := by
  have h : waste = 2 ∨ waste = 3 ∨ waste = 4 ∨ waste = 5 ∨ waste = 6 ∨ waste = 7 ∨ waste = 8 ∨ waste = 9 ∨ waste = 10 ∨ waste = 11 ∨ waste = 12 ∨ waste = 13 ∨ waste = 14 ∨ waste = 15 ∨ waste = 16 := by omega
  rcases h with rfl | rfl | rfl | rfl | rfl | rfl | rfl | rfl | rfl | rfl | rfl | rfl | rfl | rfl | rfl <;> decide +kernel
theorem allR_small (waste : Int) : ∀ j, j < (allR waste).length → (cAt (allR waste) j).small ∧ 2 ≤ (cAt (allR waste) j).b ∧ (cAt (allR waste) j).b ≤ 32 := by
  have hb : ∀ (k : Nat) (s : Int), 8 ≤ s → ∀ x ∈ below waste k s, 8 ≤ x ∧ x < 512 := by
    intro k
    induction k with
    | zero => intro s _ x hx; cases hx
    | succ k ih =>
      intro s hs x hx
      unfold below at hx
      split at hx
      · rcases List.mem_cons.1 hx with rfl | hx
        · omega
        · refine ih _ ?_ x hx
          unfold nextS
          split <;> omega
      · cases hx
  have ha : ∀ c ∈ allR waste, ∃ s, 8 ≤ s ∧ s ≤ 512 ∧ c = classOf waste s := by
    intro c hc
    unfold allR at hc
    rcases List.mem_append.1 hc with hc | hc
    · obtain ⟨s, hs, rfl⟩ := List.mem_map.1 hc
      have := hb 65 8 (by omega) s hs
      exact ⟨s, by omega, by omega, rfl⟩
    · rw [List.mem_singleton] at hc
      exact ⟨512, by omega, by omega, hc⟩
  intro j hj
  have e : cAt (allR waste) j = (allR waste)[j] := by simp [cAt, List.getD_eq_getElem?_getD, List.getElem?_eq_getElem hj]
  obtain ⟨s, h1, h2, h3⟩ := ha _ (List.getElem_mem hj)
  rw [e, h3]
  have h4 := pgs_range s waste
  refine ⟨⟨h1, h2, h4.1, h4.2⟩, ?_⟩
  show 2 ≤ bat _ ∧ bat _ ≤ 32
  unfold bat
  omega
theorem nextS_bounds (waste s : Int) : s + 8 ≤ nextS waste s ∧ nextS waste s ≤ s + 256 := by
  unfold nextS pw
  omega

set_option maxRecDepth 100000 in
set_option maxHeartbeats 4000000 in
theorem rMake_any (w : World) (waste : Int) (hw1 : 2 ≤ waste) (hw2 : waste ≤ 16) :
    Calls Try.prog 23 #[.int .i64 waste] w fun e w' =>
      ∃ v, e = .returned (.tuple #[v, .int .i64 0]) ∧ w'.ownsRow w.heap.size 24 3 v (makeC waste).length (cellsC (makeC waste)) ∧ Only [] w w' := by
  obtain ⟨i0, hi, hz0, hz1, hz2⟩ := info_parts info_class
  have d1 : decide (waste < 2) = false := decide_eq_false (by omega)
  have d2 : decide (16 < waste) = false := decide_eq_false (by omega)
  have HM : Hid (makeC waste = outTo (allR waste) (allR waste).length) := by show _ = _; rw [allR_eq waste hw1 hw2]; rfl
  have HS := Lib.hid (allR_small waste)
  have hle : (allR waste).length ≤ 66 := by unfold allR; have := below_length waste 65 8; simp; omega
  have HALL : Hid (allR waste = (below waste 65 8).map (classOf waste) ++ [classOf waste 512]) := rfl
  go_enter Try.func23, Try.ntmps23
  go_wp2_with fail
  go_loopw [4, 5] (fun u t wr => ∃ (k : Nat) (pre : List Int) (s : Int), pre ++ below waste k s = below waste 65 8 ∧ 8 + 8 * (65 - (k : Int)) ≤ s ∧ k ≤ 65 ∧ s ≤ 768 ∧ pre.length ≤ 65 ∧ t = .int .i64 s ∧ Only [] w wr ∧ wr.ownsRow w.heap.size 24 3 u pre.length (cellsC (pre.map (classOf waste)))) (fun _ t _ => 1000 - (intOf t).toNat)
  case atStart => exact ⟨65, [], 8, rfl, by omega, by omega, by omega, by simp, rfl, Only.refl _ _, World.ownsRow_nil _ _ _ _⟩
  case round =>
    obtain ⟨k, pre, s, hpre, hsk, hk, hs7, hpl, rfl, ho, hown⟩ := hrel
    have hsz := ho.size
    by_cases hlt : s < 512
    · have d3 : decide (s < 512) = true := decide_eq_true hlt
      obtain ⟨k, rfl⟩ : ∃ k', k = k' + 1 := ⟨k - 1, by omega⟩
      have HB : Hid (below waste (k + 1) s = s :: below waste k (nextS waste s)) := by show _ = _; rw [below, if_pos hlt]
      rw [HB.out] at hpre
      have HPRE := Lib.hid hpre
      clear hpre HB
      have C1 := fun W => rclass_any W s waste (by omega) (by omega) hw1 hw2
      have C2 := fun W => rstep_any W s waste (by omega) (by omega) hw1 hw2
      have hnb := nextS_bounds waste s
      have HN : Hid (nextS waste s = s + if 8 < pw (s / waste) then pw (s / waste) else 8) := rfl
      generalize (if 8 < pw (s / waste) then pw (s / waste) else 8) = d at *
      have hd : 8 ≤ d ∧ d ≤ 256 := by have := HN.out; omega
      have HC : Hid (classOf waste s = ⟨s, pgs s waste, bat (512 / s)⟩) := rfl
      unfold Cl.val at C1
      rw [HC.out] at C1
      dsimp only at C1
      have hpl2 : pre.length + 1 ≤ 65 := by have h := congrArg List.length HPRE.out; have := below_length waste 65 8; simp at h; omega
      generalize pgs s waste = pg at *
      generalize bat (512 / s) = bt at *
      have HC1 := Lib.hid C1
      have HC2 := Lib.hid C2
      clear C1 C2
      go_wp2_with (first | (go_at_call 35; with_reducible refine Grew.use (HC1.out _) (fun w2 ho2 => ?_); have hown2 := own_only hown ho2 (by simp); have hsz2 := ho2.size; clear hown) | (go_at_call 36; with_reducible refine Still.use (HC2.out _) ?_) | (at_builtin; refine wpList_append_own _ rfl _ _ 22 rfl w.heap.size 24 i0 (.agg #[.int .i64 0, .int .i64 0, .int .i64 0]) 3 24 Try.underlying22 hi hz0 hz1 hz2 rfl (by decide) _ _ _ rfl (hown2.alloc _) ⟨w2.heap.size, 0, none⟩ 1 1 [.int .i64 s, .int .i64 pg, .int .i64 bt] rfl rfl (World.news_of_block (World.alloc_heap_new w2 _)) (by simp [Value.oneCell']) (by unfold maxLen; omega) (by omega) (by simp; omega) ?_; intro v1 w3 hown3 hg3 _))
      go_roundw
      case rel => exact ⟨k, pre ++ [s], nextS waste s, by rw [List.append_assoc]; exact HPRE.out, by omega, by omega, by omega, (by simpa using hpl2), by rw [HN.out], ((ho.trans ho2).alloc _).grown hg3 (fun b hb => .inr (own_base hown2 b hb)), by rw [List.map_append, cellsC_append, List.length_append, List.map_cons, HC.out]; exact hown3⟩
      case measure => simp [intOf]; omega
    · have d3 : decide (s < 512) = false := decide_eq_false hlt
      rw [below_end k (by omega), List.append_nil] at hpre
      have C1 := fun W => rclass_any W 512 waste (by omega) (by omega) hw1 hw2
      have HC : Hid (classOf waste 512 = ⟨512, pgs 512 waste, bat (512 / 512)⟩) := rfl
      unfold Cl.val at C1
      rw [HC.out] at C1
      dsimp only at C1
      generalize pgs 512 waste = pg at *
      generalize bat (512 / 512) = bt at *
      have HC1 := Lib.hid C1
      clear C1
      rw [hpre] at hown hpl
      clear hpre hsk hs7 hlt
      go_wp2_with (first | (go_at_call 35; with_reducible refine Grew.use (HC1.out _) (fun w2 ho2 => ?_); have hown2 := own_only hown ho2 (by simp); have hsz2 := ho2.size; clear hown) | (at_builtin; refine wpList_append_own _ rfl _ _ 22 rfl w.heap.size 24 i0 (.agg #[.int .i64 0, .int .i64 0, .int .i64 0]) 3 24 Try.underlying22 hi hz0 hz1 hz2 rfl (by decide) _ _ _ rfl (hown2.alloc _) ⟨w2.heap.size, 0, none⟩ 1 1 [.int .i64 512, .int .i64 pg, .int .i64 bt] rfl rfl (World.news_of_block (World.alloc_heap_new w2 _)) (by simp [Value.oneCell']) (by unfold maxLen; omega) (by omega) (by simp; omega) ?_; intro v1 w3 hown3 hg3 _))
      have hoW := ((ho.trans ho2).alloc (.cells #[.int .i64 512, .int .i64 pg, .int .i64 bt] 24)).grown hg3 (fun b hb => .inr (own_base hown2 b hb))
      rw [show ((below waste 65 8).length + 1 = (allR waste).length) by rw [HALL.out]; simp, show (cellsC ((below waste 65 8).map (classOf waste)) ++ [.int .i64 512, .int .i64 pg, .int .i64 bt] = cellsC (allR waste)) by rw [HALL.out, cellsC_append, HC.out]; rfl] at hown3
      clear HALL HC HC1 hown2 hg3 ho2 ho
      generalize allR waste = l at *
      obtain ⟨A, c, rfl, hr, hA⟩ := own_reads rfl hown3 (fun j hj => by obtain ⟨⟨h1, h2, h3, h4⟩, h5, h6⟩ := HS.out j hj; unfold I64; omega)
      obtain ⟨N, hN⟩ : ∃ N, N = l.length := ⟨_, rfl⟩
      have hsm := HS.out
      rw [← hN] at hr hown3 hsm hle HM ⊢
      have HS := Lib.hid hsm
      have HR := Lib.hid hr
      have HN := Lib.hid hN
      clear hsm hr hN
      have hWs := hoW.size
      generalize w3 = W at *
      go_wp2_with fail
      go_loopw [6, 7] (fun u t wr => ∃ k : Nat, k ≤ N ∧ t = .int .i64 k ∧ Only [] W wr ∧ wr.ownsRow W.heap.size 24 3 u (outTo l k).length (cellsC (outTo l k))) (fun _ t _ => N - (intOf t).toNat)
      case atStart => exact ⟨0, Nat.zero_le _, rfl, Only.refl _ _, World.ownsRow_nil _ _ _ _⟩
      case round =>
        obtain ⟨k, hk, rfl, ho, hown⟩ := hrel
        by_cases hlt : k < N
        · obtain ⟨ad, rfl, c1, c2, c3⟩ := (HR.out.still ho).at_ hlt
          have hxs := HS.out k hlt
          have HP : k + 1 < N → (wr.cell? (ad.add ((k + 1) * 3)) = some (.int .i64 (cAt l (k + 1)).s) ∧ wr.cell? ⟨(ad.add ((k + 1) * 3)).block, (ad.add ((k + 1) * 3)).off + 1, none⟩ = some (.int .i64 (cAt l (k + 1)).p) ∧ wr.cell? ⟨(ad.add ((k + 1) * 3)).block, (ad.add ((k + 1) * 3)).off + 2, none⟩ = some (.int .i64 (cAt l (k + 1)).b)) := fun h0 => by
            obtain ⟨_, e, p⟩ := (HR.out.still ho).at_ (k := k + 1) (by omega)
            injection e with e
            subst e
            exact p
          have hole := outTo_le l k
          have HK1 := Lib.hid (outTo_keep l k)
          have HK0 := Lib.hid (outTo_drop l k)
          have HKA := Lib.hid (keepAt_eq l k)
          rw [← HN.out] at HKA
          generalize hxg : cAt l k = x at c1 c2 c3 hxs HK1 HKA
          generalize hyg : cAt l (k + 1) = y at HP HKA
          have CX := Lib.hid (fun W => robj_any W x hxs.1)
          obtain ⟨xs, xp, xb⟩ := x
          unfold Cl.val at CX
          dsimp only at c1 c2 c3 CX HK1
          have g1 := cell_after c1
          have g2 := cell_after c2
          have g3 := cell_after c3
          clear c1 c2 c3
          have d4 : decide ((k : Int) < N) = true := decide_eq_true (by omega)
          by_cases h1 : k + 1 < N
          · obtain ⟨y1, y2, y3⟩ := HP h1
            have y1 := cell_after y1
            have y2 := cell_after y2
            have y3 := cell_after y3
            have hys := HS.out (k + 1) h1
            rw [hyg] at hys
            have CY := Lib.hid (fun W => robj_any W y hys.1)
            obtain ⟨ys', yp, yb⟩ := y
            unfold Cl.val at CY
            dsimp only at y1 y2 y3 CY
            clear HP hyg hxg
            have e1 : ((k : Int) == (N : Int) - 1) = false := beq_eq_false_iff_ne.2 (by omega)
            by_cases h2 : yp = xp
            · have d2 : (xp == yp) = true := beq_iff_eq.2 h2.symm
              by_cases h3 : Cl.n ⟨ys', yp, yb⟩ = Cl.n ⟨xs, xp, xb⟩
              · have e3 : (Cl.n ⟨xs, xp, xb⟩ == Cl.n ⟨ys', yp, yb⟩) = true := beq_iff_eq.2 h3.symm
                have HO := Lib.hid (HK0.out (by rw [HKA.out, decide_eq_true h1]; dsimp only; rw [beq_iff_eq.2 h2, beq_iff_eq.2 h3]; rfl))
                subst h2
                clear h3 HKA HK0 HK1
                generalize Cl.n ⟨ys', yp, yb⟩ = yn at *
                generalize Cl.n ⟨xs, yp, xb⟩ = xn at *
                go_wp2_with fail
                refine wp_region_grew (by kernel_rfl) (by kernel_rfl) ?_
                repeat (go_big_quiet_step (first | (go_at_call 20; with_reducible exact Grew.g (CX.out _)) | (go_at_call 20; with_reducible exact Grew.g (CY.out _))))
                refine wpQuiet_nil ?_
                rintro w2 ⟨⟨_, ho2⟩, rfl⟩
                have hown2 := own_only hown ho2 (by simp)
                have hoW := ho.trans ho2
                go_wp2_with fail
                go_roundw
                case rel => exact ⟨k + 1, by omega, by go_num, hoW, by rw [HO.out]; exact hown2⟩
                case measure => simp [intOf]; omega
              · have e3 : (Cl.n ⟨xs, xp, xb⟩ == Cl.n ⟨ys', yp, yb⟩) = false := beq_eq_false_iff_ne.2 (fun h => h3 h.symm)
                have f3 : (Cl.n ⟨xs, xp, xb⟩ != Cl.n ⟨ys', yp, yb⟩) = true := bne_iff_ne.2 (fun h => h3 h.symm)
                have HO := Lib.hid (HK1.out (by rw [HKA.out, decide_eq_true h1]; dsimp only; rw [beq_iff_eq.2 h2, beq_eq_false_iff_ne.2 h3]; rfl))
                subst h2
                clear h3 HKA HK0 HK1
                generalize Cl.n ⟨ys', yp, yb⟩ = yn at *
                generalize Cl.n ⟨xs, yp, xb⟩ = xn at *
                go_wp2_with fail
                refine wp_region_grew (by kernel_rfl) (by kernel_rfl) ?_
                repeat (go_big_quiet_step (first | (go_at_call 20; with_reducible exact Grew.g (CX.out _)) | (go_at_call 20; with_reducible exact Grew.g (CY.out _))))
                refine wpQuiet_nil ?_
                rintro w2 ⟨⟨_, ho2⟩, rfl⟩
                have C1 := g1 ⟨w2, ho2⟩
                have C2 := g2 ⟨w2, ho2⟩
                have C3 := g3 ⟨w2, ho2⟩
                have hown2 := own_only hown ho2 (by simp)
                have hoW := ho.trans ho2
                have hszW := hoW.size
                clear hown
                go_wp2_with (first | (at_builtin; refine wpList_append_own _ rfl _ _ 22 rfl W.heap.size 24 i0 (.agg #[.int .i64 0, .int .i64 0, .int .i64 0]) 3 24 Try.underlying22 hi hz0 hz1 hz2 rfl (by decide) _ _ _ rfl (hown2.alloc _) ⟨w2.heap.size, 0, none⟩ 1 1 [.int .i64 xs, .int .i64 yp, .int .i64 xb] rfl rfl (World.news_of_block (World.alloc_heap_new w2 _)) (by simp [Value.oneCell']) (by unfold maxLen; omega) (by omega) (by simp; omega) ?_; intro v1 w3 hown3 hg3 _))
                go_roundw
                case rel => exact ⟨k + 1, by omega, by go_num, (hoW.alloc _).grown hg3 (fun b hb => .inr (own_base hown2 b hb)), by rw [HO.out, cellsC_append, List.length_append]; exact hown3⟩
                case measure => simp [intOf]; omega
            · have d2 : (xp == yp) = false := beq_eq_false_iff_ne.2 (fun h => h2 h.symm)
              have f2 : (xp != yp) = true := bne_iff_ne.2 (fun h => h2 h.symm)
              have HO := Lib.hid (HK1.out (by rw [HKA.out, decide_eq_true h1]; simp [h2]))
              clear h2 HKA HK0 HK1
              go_wp2_with fail
              refine wp_region_grew (by kernel_rfl) (by kernel_rfl) ?_
              repeat (go_big_quiet_step (fail))
              refine wpQuiet_nil ?_
              rintro w2 ⟨⟨_, ho2⟩, rfl⟩
              have C1 := g1 ⟨w2, ho2⟩
              have C2 := g2 ⟨w2, ho2⟩
              have C3 := g3 ⟨w2, ho2⟩
              have hown2 := own_only hown ho2 (by simp)
              have hoW := ho.trans ho2
              have hszW := hoW.size
              clear hown
              go_wp2_with (first | (at_builtin; refine wpList_append_own _ rfl _ _ 22 rfl W.heap.size 24 i0 (.agg #[.int .i64 0, .int .i64 0, .int .i64 0]) 3 24 Try.underlying22 hi hz0 hz1 hz2 rfl (by decide) _ _ _ rfl (hown2.alloc _) ⟨w2.heap.size, 0, none⟩ 1 1 [.int .i64 xs, .int .i64 xp, .int .i64 xb] rfl rfl (World.news_of_block (World.alloc_heap_new w2 _)) (by simp [Value.oneCell']) (by unfold maxLen; omega) (by omega) (by simp; omega) ?_; intro v1 w3 hown3 hg3 _))
              go_roundw
              case rel => exact ⟨k + 1, by omega, by go_num, (hoW.alloc _).grown hg3 (fun b hb => .inr (own_base hown2 b hb)), by rw [HO.out, cellsC_append, List.length_append]; exact hown3⟩
              case measure => simp [intOf]; omega
          · have e1 : ((k : Int) == (N : Int) - 1) = true := beq_iff_eq.2 (by omega)
            have HO := Lib.hid (HK1.out (by rw [HKA.out, decide_eq_false h1]; rfl))
            clear HKA HK0 HK1 HP hyg hxg
            go_wp2_with fail
            refine wp_region_grew (by kernel_rfl) (by kernel_rfl) ?_
            repeat (go_big_quiet_step (fail))
            refine wpQuiet_nil ?_
            rintro w2 ⟨⟨_, ho2⟩, rfl⟩
            have C1 := g1 ⟨w2, ho2⟩
            have C2 := g2 ⟨w2, ho2⟩
            have C3 := g3 ⟨w2, ho2⟩
            have hown2 := own_only hown ho2 (by simp)
            have hoW := ho.trans ho2
            have hszW := hoW.size
            clear hown
            go_wp2_with (first | (at_builtin; refine wpList_append_own _ rfl _ _ 22 rfl W.heap.size 24 i0 (.agg #[.int .i64 0, .int .i64 0, .int .i64 0]) 3 24 Try.underlying22 hi hz0 hz1 hz2 rfl (by decide) _ _ _ rfl (hown2.alloc _) ⟨w2.heap.size, 0, none⟩ 1 1 [.int .i64 xs, .int .i64 xp, .int .i64 xb] rfl rfl (World.news_of_block (World.alloc_heap_new w2 _)) (by simp [Value.oneCell']) (by unfold maxLen; omega) (by omega) (by simp; omega) ?_; intro v1 w3 hown3 hg3 _))
            go_roundw
            case rel => exact ⟨k + 1, by omega, by go_num, (hoW.alloc _).grown hg3 (fun b hb => .inr (own_base hown2 b hb)), by rw [HO.out, cellsC_append, List.length_append]; exact hown3⟩
            case measure => simp [intOf]; omega
        · have e : k = N := by omega
          subst e
          have d4 : decide ((k : Int) < k) = false := decide_eq_false (by omega)
          go_wp2_with fail
          go_ret2
          refine ⟨_, rfl, ?_, hoW.trans ho⟩
          rw [HM.out]
          exact own_mono hown (by omega)
end Go.Proofs.Ytgicapdiiknbiaa

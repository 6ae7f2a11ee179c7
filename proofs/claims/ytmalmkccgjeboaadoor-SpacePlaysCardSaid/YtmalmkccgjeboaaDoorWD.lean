/- Contract of Runs. -/
import Derived.Test.YtmalmkccgjeboaaDoorWC
import Derived.Deep.AppendLies
import Derived.Maps.AppendAt
set_option linter.unusedVariables false
set_option linter.unusedSimpArgs false
namespace Go.Proofs.YtmalmkccgjeboaaDoor
open Go.RowKit

theorem info_run : (Tryd.prog.info? 64).map (fun i => (i.zero, i.size, i.bytes)) = some (some (.agg #[.int .i64 0, .int .i64 0]), 2, 16) := by kernel_rfl

theorem news_new (w : World) (cs : Array Value) (t : TypeId) : ∀ j u, cs.toList[j]? = some u → (w.alloc (.cells cs t)).cell? ((⟨w.heap.size, 0, none⟩ : Addr).add j) = some u := World.news_of_block (Blk.new w t cs)
theorem runsTo_bump {st : Int → Int} {v : Int} {k : Nat} (h : st k = v) (h2 : 0 < k ∧ st ((k : Int) - 1) = v) : runsTo st v (k + 1) = bump (runsTo st v k) := (if_pos h).trans (if_pos h2)
theorem runsTo_new {st : Int → Int} {v : Int} {k : Nat} (h : st k = v) (h2 : ¬ (0 < k ∧ st ((k : Int) - 1) = v)) : runsTo st v (k + 1) = runsTo st v k ++ [((k : Int), 1)] := (if_pos h).trans (if_neg h2)
theorem runsTo_keep {st : Int → Int} {v : Int} {k : Nat} (h : st k ≠ v) : runsTo st v (k + 1) = runsTo st v k := if_neg h

set_option maxRecDepth 100000 in
set_option maxHeartbeats 4000000 in
theorem Runs_any {w : World} (hE : Env w) {p : Nat} {l : List Nat} {m : SpM} (h : SpaceAt w p l m) (v : Int) (hv : I64 v) :
    Calls Tryd.prog 35 #[.pointer (some ⟨p, 0, none⟩), .int .i64 v] w fun e w' => ∃ x, e = .returned x ∧ Only [] w w' ∧ w'.ownsRow w.heap.size 64 2 x (runsTo m.st v m.n).length (cellsR (runsTo m.st v m.n)) := by
  have CM := Lib.hid (made_any h)
  have HE := Lib.hid hE
  have HS1 := Lib.hid h.good.s1
  have HOK := Lib.hid (fun k => runsTo_ok m.st v k)
  have HSP := Lib.hid h
  obtain ⟨hg, h3, h4, gp, cap, gm, G, hp⟩ := h
  have z0 := hp.blk.cell_ 0 rfl
  have hbp := hp.blk
  have HR := Lib.hid hp.row
  have hn2 := hg.n2
  have hcap := hp.cap_
  clear hp hg hE
  generalize hst : m.st = st at *
  have HST := Lib.hid hst
  clear hst
  generalize m.n = n at *
  obtain ⟨i0, hi, hz0, hz1, hz2⟩ := info_parts info_run
  go_enter Tryd.func35, Tryd.ntmps35
  go_wp2_with (first | (go_at_call 40; with_reducible refine Still.use CM.out ?_))
  clear CM
  go_loopw [5, 16] (fun u t wr => ∃ k : Nat, k ≤ n ∧ t = .int .i64 k ∧ Only [] w wr ∧ wr.ownsRow w.heap.size 64 2 u (runsTo st v k).length (cellsR (runsTo st v k))) (fun _ t _ => n - (intOf t).toNat)
  case atStart => exact ⟨0, Nat.zero_le _, rfl, Only.refl _ _, World.ownsRow_nil _ _ _ _⟩
  case round =>
    obtain ⟨k, hk, rfl, ho, hown⟩ := hrel
    by_cases hlt : k < n
    · have d1 : decide ((k : Int) < n) = true := decide_eq_true (by omega)
      have hrow := HR.out.only ho (by simp)
      have hE' := HE.out.only ho (by simp)
      have x0 := hrow.cell (k := k * 2) (by omega)
      have x1 := hrow.cell (k := k * 2 + 1) (by omega)
      unfold pcell at x0 x1
      rw [if_pos (by omega), show k * 2 / 2 = k by omega] at x0
      rw [if_neg (by omega), show (k * 2 + 1) / 2 = k by omega] at x1
      have HS := Lib.hid (HS1.out (k : Int))
      have hl0 := (HOK.out k).len
      obtain ⟨L, hL⟩ : ∃ L, L = (runsTo st v k).length := ⟨_, rfl⟩
      obtain ⟨xs, hxs⟩ : ∃ xs, xs = cellsR (runsTo st v k) := ⟨_, rfl⟩
      rw [← hL, ← hxs] at hown
      rw [← hL] at hl0
      have HL := Lib.hid hL
      have HXS := Lib.hid hxs
      clear hL hxs
      have hsz := ho.size
      have C := Lib.hid (fun W (hE : Env W) => state_any W hE (st k) HS.out)
      have hoA : ∀ o, Only [] w (wr.alloc o) := fun o => ho.alloc o
      have hEA : ∀ o, Env (wr.alloc o) := fun o => HE.out.only (hoA o) (by simp)
      by_cases hkv : st k = v
      · have d2 : (st k == v) = true := beq_iff_eq.2 hkv
        have d3 : (st k != v) = false := by rw [hkv]; simp
        rcases Nat.eq_zero_or_pos k with e0 | h0
        · have HN : Hid (runsTo st v (k + 1) = runsTo st v k ++ [((k : Int), 1)]) := runsTo_new hkv (by omega)
          have d4 : decide ((0 : Int) < (k : Int)) = false := decide_eq_false (by omega)
          have d4' : decide (0 < k) = false := decide_eq_false (by omega)
          clear e0
          have hE1 := hEA (.cells #[.bool (st k != 0), .bool (st k == 2)] 70)
          clear hkv
          generalize st k = s at *
          generalize (s != 0) = a0 at *
          generalize (s == 2) = a1 at *
          have hoB := hoA (.cells #[.bool a0, .bool a1] 70)
          have hownB := hown.alloc (.cells #[.bool a0, .bool a1] 70)
          go_wp2_with (first
            | (go_at_call 43; with_reducible refine Grew.use (C.out _ hE1) (fun w1 ho1 => ?_); have hown2 := own_only hownB ho1 (by simp); have ho2 := hoB.trans ho1; have hsz2 := ho2.size; clear hown)
            | (at_builtin; refine wpList_append_own _ rfl _ _ 61 rfl w.heap.size 64 i0 (.agg #[.int .i64 0, .int .i64 0]) 2 16 Tryd.underlying61 hi hz0 hz1 hz2 rfl (by decide) _ _ _ rfl (hown2.alloc _) ⟨w1.heap.size, 0, none⟩ 1 1 [.int .i64 k, .int .i64 1] rfl rfl (news_new w1 _ _) (by simp [Value.oneCell']) (by unfold maxLen; omega) (by omega) (by simp; omega) ?_; intro v1 w3 hown3 hg3 _))
          go_roundw
          case rel => exact ⟨k + 1, by omega, by go_num, (ho2.alloc _).grown hg3 (fun b hb => .inr (own_base hown2 b hb)), by rw [HN.out, cellsR_append, List.length_append, ← HL.out, ← HXS.out]; exact hown3⟩
          case measure => simp [intOf]; omega
        · have d4 : decide ((0 : Int) < (k : Int)) = true := decide_eq_true (by omega)
          have d4' : decide (0 < k) = true := decide_eq_true h0
          obtain ⟨k', hk'⟩ : ∃ k', k = k' + 1 := ⟨k - 1, by omega⟩
          have y0 := hrow.cell (k := k' * 2) (by omega)
          have y1 := hrow.cell (k := k' * 2 + 1) (by omega)
          unfold pcell at y0 y1
          rw [if_pos (by omega), show k' * 2 / 2 = k' by omega] at y0
          rw [if_neg (by omega), show (k' * 2 + 1) / 2 = k' by omega] at y1
          have e1 : IntKind.i64.wrap ((k : Int) - 1) = k' := by rw [IntWalk.i64_in _ (by omega)]; omega
          have e2 : ((k : Int) - 1) = k' := by omega
          clear y0 y1
          have HS2 := Lib.hid (HS1.out (k' : Int))
          have HZ := Lib.hid (fun (W : World) (ho : Only [] w W) => (hbp.only ho (by simp)).cell_ 0 rfl)
          have HY0 := Lib.hid (fun (W : World) (ho : Only [] w W) => show W.cell? ⟨gp, k' * 2, none⟩ = some (.bool (st k' != 0)) by
            have y0 := (HR.out.only ho (by simp)).cell (k := k' * 2) (by omega)
            unfold pcell at y0
            rwa [if_pos (by omega), show k' * 2 / 2 = k' by omega] at y0)
          have HY1 := Lib.hid (fun (W : World) (ho : Only [] w W) => show W.cell? ⟨gp, k' * 2 + 1, none⟩ = some (.bool (st k' == 2)) by
            have y1 := (HR.out.only ho (by simp)).cell (k := k' * 2 + 1) (by omega)
            unfold pcell at y1
            rwa [if_neg (by omega), show (k' * 2 + 1) / 2 = k' by omega] at y1)
          have C2 := Lib.hid (fun W (hE : Env W) => state_any W hE (st k') HS2.out)
          clear hk'
          by_cases hkv2 : st ((k : Int) - 1) = v
          · have HN : Hid (runsTo st v (k + 1) = bump (runsTo st v k)) := runsTo_bump hkv ⟨h0, hkv2⟩
            rw [e2] at hkv2
            have d5 : (st k' == v) = true := beq_iff_eq.2 hkv2
            have hLp : 0 < L := by rw [HL.out]; exact ((HOK.out k).touch.1 ⟨h0, by rw [e2]; exact hkv2⟩).1
            obtain ⟨g, c, rfl, hgb, hgl⟩ := own_form hown hLp
            obtain ⟨N, rfl⟩ : ∃ N, L = N + 1 := ⟨L - 1, by omega⟩
            have HLE := Lib.hid (HL.out.symm)
            have HRN := Lib.hid (fun (W : World) (ho : W.ownsRow w.heap.size 64 2 (.slice (some ⟨g, 0, none⟩) (N + 1) c) (N + 1) xs) => own_runs (l := runsTo st v k) (by rw [← HXS.out]; exact ho) HL.out (show N < N + 1 by omega))
            have hbnd : 1 ≤ (rAt (runsTo st v k) N).2 ∧ (rAt (runsTo st v k) N).2 ≤ k := by
              have a1 := (HOK.out k).pos N (by rw [← HL.out]; omega)
              have a2 := (HOK.out k).lo N (by rw [← HL.out]; omega)
              have a3 := (HOK.out k).hi N (by rw [← HL.out]; omega)
              have a4 := (HOK.out k).hi (N + 1) (by rw [← HL.out]; omega)
              rw [endTo_succ] at a4
              omega
            have HB : Hid (cellsR (bump (runsTo st v k)) = xs.set (N * 2 + 1) (.int .i64 ((rAt (runsTo st v k) N).2 + 1))) := by
              have := cellsR_bump (runsTo st v k) (by rw [← HL.out]; omega)
              rw [← HL.out, Nat.add_sub_cancel, ← HXS.out] at this
              exact this
            obtain ⟨hb1, hb2⟩ := hbnd
            generalize (rAt (runsTo st v k) N).2 = bb at *
            generalize (rAt (runsTo st v k) N).1 = aa at *
            have hE1 := hEA (.cells #[.bool (st k != 0), .bool (st k == 2)] 70)
            have hoB := hoA (.cells #[.bool (st k != 0), .bool (st k == 2)] 70)
            have hownB := hown.alloc (.cells #[.bool (st k != 0), .bool (st k == 2)] 70)
            clear hkv hkv2 z0
            generalize st k = s at *
            generalize (s != 0) = a0 at *
            generalize (s == 2) = a1 at *
            generalize st k' = s' at *
            generalize (s' != 0) = b0 at *
            generalize (s' == 2) = b1 at *
            go_wp2_with (first
              | (go_at_call 43; with_reducible refine Grew.use (C.out _ hE1) (fun w1 ho1 => ?_); have hown2 := own_only hownB ho1 (by simp); have ho2 := hoB.trans ho1; have hsz2 := ho2.size; have z0 := HZ.out _ ho2; have y0 := HY0.out _ ho2; have y1 := HY1.out _ ho2; have hE2 := HE.out.only ho2 (by simp); clear hown)
              | (go_at_call 43; with_reducible refine Grew.use (C2.out _ hE2) (fun w4 ho4 => ?_); have hown4 := own_only hown2 ho4 (by simp); have ho5 := ho2.trans ho4; have hsz5 := ho5.size; clear hown2 z0 y0 y1; obtain ⟨q0, q1, qf⟩ := HRN.out _ hown4)
)
            go_roundw
            case rel => exact ⟨k + 1, by omega, by go_num, ho5.setCell (.inr hgb) _, by rw [HN.out, bump_len, ← HL.out, HB.out]; exact own_set hown4 _ _⟩
            case measure => simp [intOf]; omega
          · have HN : Hid (runsTo st v (k + 1) = runsTo st v k ++ [((k : Int), 1)]) := runsTo_new hkv (fun h => hkv2 h.2)
            rw [e2] at hkv2
            have d5 : (st k' == v) = false := beq_eq_false_iff_ne.2 hkv2
            have hE1 := hEA (.cells #[.bool (st k != 0), .bool (st k == 2)] 70)
            have hoB := hoA (.cells #[.bool (st k != 0), .bool (st k == 2)] 70)
            have hownB := hown.alloc (.cells #[.bool (st k != 0), .bool (st k == 2)] 70)
            clear hkv hkv2 z0
            generalize st k = s at *
            generalize (s != 0) = a0 at *
            generalize (s == 2) = a1 at *
            generalize st k' = s' at *
            generalize (s' != 0) = b0 at *
            generalize (s' == 2) = b1 at *
            go_wp2_with (first
              | (go_at_call 43; with_reducible refine Grew.use (C.out _ hE1) (fun w1 ho1 => ?_); have hown2 := own_only hownB ho1 (by simp); have ho2 := hoB.trans ho1; have hsz2 := ho2.size; have z0 := HZ.out _ ho2; have y0 := HY0.out _ ho2; have y1 := HY1.out _ ho2; have hE2 := HE.out.only ho2 (by simp); clear hown)
              | (go_at_call 43; with_reducible refine Grew.use (C2.out _ hE2) (fun w4 ho4 => ?_); have hown4 := own_only hown2 ho4 (by simp); have ho5 := ho2.trans ho4; have hsz5 := ho5.size; clear hown2 z0 y0 y1)
              | (at_builtin; refine wpList_append_own _ rfl _ _ 61 rfl w.heap.size 64 i0 (.agg #[.int .i64 0, .int .i64 0]) 2 16 Tryd.underlying61 hi hz0 hz1 hz2 rfl (by decide) _ _ _ rfl (hown4.alloc _) ⟨w4.heap.size, 0, none⟩ 1 1 [.int .i64 k, .int .i64 1] rfl rfl (news_new w4 _ _) (by simp [Value.oneCell']) (by unfold maxLen; omega) (by omega) (by simp; omega) ?_; intro v1 w3 hown3 hg3 _))
            go_roundw
            case rel => exact ⟨k + 1, by omega, by go_num, (ho5.alloc _).grown hg3 (fun b hb => .inr (own_base hown4 b hb)), by rw [HN.out, cellsR_append, List.length_append, ← HL.out, ← HXS.out]; exact hown3⟩
            case measure => simp [intOf]; omega
      · have HN : Hid (runsTo st v (k + 1) = runsTo st v k) := runsTo_keep hkv
        have d2 : (st k == v) = false := beq_eq_false_iff_ne.2 hkv
        have d3 : (st k != v) = true := bne_iff_ne.2 hkv
        clear hkv
        generalize st k = s at *
        generalize (s != 0) = a0 at *
        generalize (s == 2) = a1 at *
        go_wp2_with (first | (go_at_call 43; with_reducible refine Grew.use (C.out _ (hEA _)) (fun w1 ho1 => ?_)))
        go_roundw
        case rel => exact ⟨k + 1, by omega, by go_num, (hoA _).trans ho1, by rw [HN.out, ← HL.out, ← HXS.out]; exact own_only hown (((Only.refl [] wr).alloc _).trans ho1) (by simp)⟩
        case measure => simp [intOf]; omega
    · have e : k = n := by omega
      subst e
      have d1 : decide ((k : Int) < k) = false := decide_eq_false (by omega)
      go_wp2_with fail
      go_ret
      exact ⟨_, rfl, ho, hown⟩
end Go.Proofs.YtmalmkccgjeboaaDoor

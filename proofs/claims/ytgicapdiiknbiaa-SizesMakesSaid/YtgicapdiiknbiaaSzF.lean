/- Contracts of pages, of candidates and of the function that it hands back. -/
import Derived.Test.YtgicapdiiknbiaaSzE
import Derived.RangeFuncNested
import Derived.RangeFuncBound
import Derived.RangeFuncBox
import Derived.RangeFuncCalls
import Derived.RangeFuncLeaves
import Derived.Shelf.Abstract
import Derived.Shelf.RegionOpen
import Derived.OwnWalkIn
import Derived.TacticsInMore
import Derived.LoopNIn
import Derived.LoopIn
import Derived.Maps.AppendAt
set_option linter.unusedVariables false
set_option linter.unusedSimpArgs false
namespace Go.Proofs.Ytgicapdiiknbiaa
open Go.RowKit
open Go.Shelf
attribute [local go_sem] Oper.semAt_some

/-- Are p pages enough, and is little left? -/
def pgOk (s waste p : Int) : Bool := decide (s ≤ p * 256) && decide (p * 256 % s * waste ≤ p * 256)
/-- The pages of a span for a size. -/
def pgs (s waste : Int) : Int := if pgOk s waste 1 then 1 else if pgOk s waste 2 then 2 else if pgOk s waste 3 then 3 else 4

theorem pgs_found {s waste : Int} (k : Nat) (hk : k < 4) (hJ : ∀ j : Nat, j < k → pgOk s waste ((j : Int) + 1) = false) (hb : pgOk s waste ((k : Int) + 1) = true) : pgs s waste = (k : Int) + 1 := by
  have a0 : 0 < k → pgOk s waste 1 = false := fun h => hJ 0 h
  have a1 : 1 < k → pgOk s waste 2 = false := fun h => hJ 1 h
  have a2 : 2 < k → pgOk s waste 3 = false := fun h => hJ 2 h
  unfold pgs
  rcases (by omega : k = 0 ∨ k = 1 ∨ k = 2 ∨ k = 3) with rfl | rfl | rfl | rfl
  · rw [show pgOk s waste 1 = true from hb]; rfl
  · rw [a0 (by omega), show pgOk s waste 2 = true from hb]; rfl
  · rw [a0 (by omega), a1 (by omega), show pgOk s waste 3 = true from hb]; rfl
  · rw [a0 (by omega), a1 (by omega), a2 (by omega)]; rfl
theorem pgs_none {s waste : Int} (hJ : ∀ j : Nat, j < 4 → pgOk s waste ((j : Int) + 1) = false) : pgs s waste = 4 := by
  have a0 : pgOk s waste 1 = false := hJ 0 (by omega)
  have a1 : pgOk s waste 2 = false := hJ 1 (by omega)
  have a2 : pgOk s waste 3 = false := hJ 2 (by omega)
  unfold pgs
  rw [a0, a1, a2]
  rfl

set_option maxHeartbeats 800000 in
theorem pages_any (w : World) (s waste : Int) (h1 : 8 ≤ s) (h2 : s ≤ 512) (h3 : 2 ≤ waste) (h4 : waste ≤ 16) : Still Try.prog 34 #[.int .i64 s, .int .i64 waste] w (.int .i64 (pgs s waste)) := by
  have hs0 : (s == 0) = false := beq_eq_false_iff_ne.2 (by omega)
  go_enter Try.func34, Try.ntmps34
  go_wp2_with fail
  go_loop [7] (fun t => ∃ k : Nat, k ≤ 4 ∧ t = .int .i64 k ∧ Hid (∀ j : Nat, j < k → pgOk s waste ((j : Int) + 1) = false)) (fun t => 5 - (intOf t).toNat)
  case atStart => exact ⟨0, Nat.zero_le _, rfl, fun j hj => absurd hj (by omega)⟩
  case round =>
    obtain ⟨k, hk, rfl, HJ⟩ := hrel
    by_cases hlt : k < 4
    · have m0 : 0 ≤ ((k : Int) + 1) * 256 % s := Int.emod_nonneg _ (by omega)
      have m1 : ((k : Int) + 1) * 256 % s < s := Int.emod_lt_of_pos _ (by omega)
      have m2 : 0 ≤ ((k : Int) + 1) * 256 % s * waste := Int.mul_nonneg m0 (by omega)
      have m3 : ((k : Int) + 1) * 256 % s * waste ≤ s * waste := Int.mul_le_mul_of_nonneg_right (by omega) (by omega)
      have m4 : s * waste ≤ s * 16 := Int.mul_le_mul_of_nonneg_left h4 (by omega)
      have HB : Hid (pgOk s waste ((k : Int) + 1) = (decide (s ≤ ((k : Int) + 1) * 256) && decide (((k : Int) + 1) * 256 % s * waste ≤ ((k : Int) + 1) * 256))) := rfl
      by_cases e1 : s ≤ ((k : Int) + 1) * 256
      · have d1 : decide (s ≤ ((k : Int) + 1) * 256) = true := decide_eq_true e1
        by_cases e2 : ((k : Int) + 1) * 256 % s * waste ≤ ((k : Int) + 1) * 256
        · have d2 : decide (((k : Int) + 1) * 256 % s * waste ≤ ((k : Int) + 1) * 256) = true := decide_eq_true e2
          have HE := Lib.hid (pgs_found k hlt HJ.out (by rw [HB.out, d1, d2]; rfl))
          go_wp2
          go_ret
          exact ⟨by rw [HE.out]; rfl, rfl⟩
        · have d2 : decide (((k : Int) + 1) * 256 % s * waste ≤ ((k : Int) + 1) * 256) = false := decide_eq_false e2
          have HN : Hid (∀ j : Nat, j < k + 1 → pgOk s waste ((j : Int) + 1) = false) := fun j hj => by
            rcases Nat.lt_or_ge j k with h | h
            · exact HJ.out j h
            · have e : j = k := by omega
              rw [e, HB.out, d2, Bool.and_false]
          go_wp2
          go_round
          case rel => exact ⟨k + 1, by omega, by go_num, HN⟩
          case measure => simp [intOf]; omega
      · have d1 : decide (s ≤ ((k : Int) + 1) * 256) = false := decide_eq_false e1
        have HN : Hid (∀ j : Nat, j < k + 1 → pgOk s waste ((j : Int) + 1) = false) := fun j hj => by
          rcases Nat.lt_or_ge j k with h | h
          · exact HJ.out j h
          · have e : j = k := by omega
            rw [e, HB.out, d1, Bool.false_and]
        go_wp2
        go_round
        case rel => exact ⟨k + 1, by omega, by go_num, HN⟩
        case measure => simp [intOf]; omega
    · have HE := Lib.hid (pgs_none (s := s) (waste := waste) (fun j hj => HJ.out j (by omega)))
      go_wp2
      go_ret
      exact ⟨by rw [HE.out]; rfl, rfl⟩

/-- The size after a size. -/
def nextS (waste s : Int) : Int := s + if 8 < pw (s / waste) then pw (s / waste) else 8
/-- The sizes from s on that the loop comes to. -/
def cands (waste : Int) : Nat → Int → List Int
  | 0, _ => []
  | k + 1, s => if s ≤ 512 then s :: cands waste k (nextS waste s) else []
/-- The last of the sizes, 0 if there is none. -/
def lastS (l : List Int) : Int := l.getLastD 0
/-- All sizes that a table may have. -/
def allS (waste : Int) : List Int := if lastS (cands waste 65 8) < 512 then cands waste 65 8 ++ [512] else cands waste 65 8

/-- A size that comes. -/
abbrev Sz := { x : Int // 8 ≤ x ∧ x ≤ 512 }
/-- The cell in which candidates keeps its argument. -/
def KeepC (B : Nat) (W W' : World) : Prop := ∀ v, W.cell? ⟨B, 0, none⟩ = some v → W'.cell? ⟨B, 0, none⟩ = some v

theorem pw_le (n : Int) : 0 ≤ pw n ∧ pw n ≤ 256 := by
  unfold pw
  omega

set_option maxRecDepth 100000 in
set_option maxHeartbeats 2000000 in
theorem cand1_in (n : Nat) (hn : 1 ≤ n) (l Bn : Nat) (waste : Int) (hw1 : 2 ≤ waste) (hw2 : waste ≤ 16) (J Jx : List Sz → World → Prop)
    (hY : ∀ pre x W, J pre W → pre.length < 66 → YieldAt Fence.wide (n - 1) Try.prog l #[.int .i64 x.1] W fun e W' =>
      (e = .returned (.bool true) ∧ J (pre ++ [x]) W' ∧ KeepC Bn W W') ∨ (e = .returned (.bool false) ∧ Jx (pre ++ [x]) W'))
    (W : World) (hBn : W.cell? ⟨Bn, 0, none⟩ = some (.int .i64 waste)) (h0 : J [] W) :
    CallsIn Fence.wide n Try.prog 41 #[.func (.yield l) #[] #[], .pointer (some ⟨Bn, 0, none⟩)] W fun e W' => (∃ v, e = .returned v) ∧
      ((∃ ys : List Sz, ys.map (·.1) = allS waste ∧ J ys W') ∨ (∃ pre, True ∧ Jx pre W')) := by
  refine callsIn_of_wp Try.func41 rfl trivial ?_ rfl
  simp only [Try.ntmps41, List.size_toArray, List.length_cons, List.length_nil, Nat.reduceAdd, Nat.reduceSub, Array.replicate_succ, Array.replicate_zero, List.push_toArray, List.append_toArray, List.nil_append, List.cons_append]
  have hw0 : (waste == 0) = false := beq_eq_false_iff_ne.2 (by omega)
  gi_wp2
  gi_loopw [3, 4] (fun u t wr => ∃ (pre : List Sz) (f : Nat) (s : Int), u = .int .i64 (lastS (pre.map (·.1))) ∧ t = .int .i64 s ∧ cands waste 65 8 = pre.map (·.1) ++ cands waste f s ∧ 8 ≤ s ∧ s ≤ 1100 ∧ pre.length + f = 65 ∧ 512 < s + 8 * f ∧ J pre wr ∧ wr.cell? ⟨Bn, 0, none⟩ = some (.int .i64 waste))
    (fun _ t _ => 2000 - (intOf t).toNat)
  case atStart => exact ⟨[], 65, 8, rfl, rfl, rfl, by omega, by omega, rfl, by omega, h0, hBn⟩
  case round =>
    obtain ⟨pre, f, s, rfl, rfl, hc, hs1, hs2, hlen, hf, hJ, hB⟩ := hrel
    by_cases hlt : s ≤ 512
    · obtain ⟨f', rfl⟩ : ∃ f', f = f' + 1 := ⟨f - 1, by omega⟩
      obtain ⟨x, hx⟩ : ∃ x : Sz, x.1 = s := ⟨⟨s, hs1, hlt⟩, rfl⟩
      have HC : Hid (cands waste 65 8 = (pre ++ [x]).map (·.1) ++ cands waste f' (nextS waste s)) := by
        show _ = _
        rw [hc]
        simp only [cands, if_pos hlt, List.map_append, List.map_cons, List.map_nil, List.append_assoc, List.cons_append, List.nil_append, hx]
      have HL : Hid (lastS ((pre ++ [x]).map (·.1)) = s) := by
        show _ = _
        simp [lastS, hx]
      obtain ⟨p1, p2⟩ := pw_le (s / waste)
      have q1 : 0 ≤ s / waste := Int.ediv_nonneg (by omega) (by omega)
      have q2 : s / waste ≤ 256 := by
        have h1 : s / waste * waste ≤ s := Int.ediv_mul_le _ (by omega)
        have h2 : s / waste * 2 ≤ s / waste * waste := Int.mul_le_mul_of_nonneg_left hw1 q1
        omega
      obtain ⟨fn, tmps, assign, body, hy, hR⟩ := hY pre x wr hJ (by omega)
      rw [hx] at hy
      clear hc
      gi_wp2
      refine hR.mono ?_
      rintro e W3 (⟨rfl, hJ3, hk3⟩ | ⟨rfl, hJx3⟩)
      · have hB3 := hk3 _ hB
        clear hk3 hB hR hy
        gi_wp2_with (refine ⟨trivial, ?_⟩; gi_at_call 37; refine (callsIn_wide.2 (power_any W3 (s / waste) q1 q2)).mono ?_; rintro e w' ⟨rfl, rfl⟩)
        have hnx : nextS waste s = s + if 8 < pw (s / waste) then pw (s / waste) else 8 := rfl
        go_roundw
        case rel =>
          rw [← hnx]
          exact ⟨pre ++ [x], f', nextS waste s, by rw [HL.out], rfl, HC.out, by rw [hnx]; omega, by rw [hnx]; omega, by simp; omega, by rw [hnx]; omega, hJ3, hB3⟩
        case measure => simp [intOf]; omega
      · gi_wp2
        refine bodyPost_ret (results_none rfl _ _ _) rfl ?_
        exact ⟨⟨_, rfl⟩, .inr ⟨_, trivial, hJx3⟩⟩
    · have he : cands waste f s = [] := by cases f <;> simp [cands, hlt]
      rw [he, List.append_nil] at hc
      by_cases hx : lastS (pre.map (·.1)) < 512
      · have HA : Hid (allS waste = pre.map (·.1) ++ [512]) := by show _ = _; unfold allS; rw [hc, if_pos hx]
        obtain ⟨x, hx2⟩ : ∃ x : Sz, x.1 = 512 := ⟨⟨512, by omega, by omega⟩, rfl⟩
        obtain ⟨fn, tmps, assign, body, hy, hR⟩ := hY pre x wr hJ (by omega)
        rw [hx2] at hy
        clear hc he
        generalize lastS (pre.map (·.1)) = la at *
        gi_wp2
        refine hR.mono ?_
        rintro e W3 (⟨rfl, hJ3, hk3⟩ | ⟨rfl, hJx3⟩)
        · gi_wp2
          go_end0
          exact ⟨⟨_, rfl⟩, .inl ⟨pre ++ [x], by rw [HA.out]; simp [hx2], hJ3⟩⟩
        · gi_wp2
          go_end0
          exact ⟨⟨_, rfl⟩, .inr ⟨_, trivial, hJx3⟩⟩
      · have HA : Hid (allS waste = pre.map (·.1)) := by show _ = _; unfold allS; rw [hc, if_neg hx]
        clear hc he
        generalize hla : lastS (pre.map (·.1)) = la at *
        gi_wp2
        go_end0
        exact ⟨⟨_, rfl⟩, .inl ⟨pre, HA.out.symm, hJ⟩⟩

set_option maxHeartbeats 800000 in
theorem candidates_any (w : World) (waste : Int) : Calls Try.prog 33 #[.int .i64 waste] w fun e w' => e = .returned (.func (.func 41) #[] #[.pointer (some ⟨w.heap.size, 0, none⟩)]) ∧ w' = w.alloc (.cells #[.int .i64 waste] 3) := by
  go_enter Try.func33, Try.ntmps33
  go_wp2
  go_ret
  exact ⟨rfl, rfl⟩

/-- candidates hands back an iterator over all sizes. -/
theorem cand_stops (n : Nat) (hn : 1 ≤ n) (Bn : Nat) (waste : Int) (hw1 : 2 ≤ waste) (hw2 : waste ≤ 16) (w : World) (hlt : Bn < w.heap.size) (hc : w.cell? ⟨Bn, 0, none⟩ = some (.int .i64 waste)) :
    SeqStopsK Fence.wide n Try.prog 41 #[.pointer (some ⟨Bn, 0, none⟩)] (fun x : Sz => #[Value.int .i64 x.1]) (KeepC Bn) (fun ys => ys.map (·.1) = allS waste) (fun _ => True) 66 w := fun l J Jx W hW _ _ hY h0 =>
  cand1_in n hn l Bn waste hw1 hw2 J Jx hY W ((hW.cell (p := ⟨Bn, 0, none⟩) hlt).trans hc) h0
end Go.Proofs.Ytgicapdiiknbiaa

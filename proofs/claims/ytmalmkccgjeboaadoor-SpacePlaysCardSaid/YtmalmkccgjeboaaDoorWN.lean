/- both, and the walk of SpacePlays. -/
import Derived.Test.YtmalmkccgjeboaaDoorWM
import Derived.Test.YtmalmkccgjeboaaDoorWB
set_option linter.unusedVariables false
set_option linter.unusedSimpArgs false
namespace Go.Proofs.YtmalmkccgjeboaaDoor
open Go.RowKit
open Go.ChangeMaps Go.Maps

theorem Two.mk2 {w0 w1 w2 : World} {p : Nat} {l : List Nat} {p' q1 q2 c1 c2 : Nat} {m m' : SpM} (ho : Only [] w0 w1) (h : SpaceAt w1 p l m) (lb : ∀ b ∈ l, w0.heap.size ≤ b) (ho2 : Only [] w1 w2) (hr : RefAt w2 p' q1 q2 c1 c2 m')
    (r1 : w1.heap.size ≤ p') (r2 : w1.heap.size ≤ q1) (r3 : w1.heap.size ≤ q2) : Two w0 w2 p l p' q1 q2 c1 c2 m m' := by
  have hz := ho.size
  refine ⟨ho.trans ho2, h.still ho2, hr, ⟨fun hb => ?_, fun hb => ?_, fun hb => ?_⟩, lb, by omega, by omega, by omega⟩
  all_goals (have := h.lt _ hb; omega)

theorem rClone (w : World) : Still Tryd.prog 32 #[.pointer none] w (.pointer none) := by
  go_enter Tryd.func32, Tryd.ntmps32
  go_wp2_with (first | (go_at_call 50; with_reducible refine Still.use (rmade _) ?_))
  go_ret
  exact ⟨rfl, rfl⟩

set_option maxHeartbeats 4000000 in
theorem both_any (w : World) (hE : Env w) (n : Int) : Calls Tryd.prog 31 #[.int .i64 n] w fun e w' => Only [] w w' ∧
    (1 ≤ n ∧ n ≤ 1024 → ∃ p l p' q1 q2 c1 c2, e = .returned (.tuple #[.pointer (some ⟨p, 0, none⟩), .pointer (some ⟨p', 0, none⟩), .bool true]) ∧ Two w w' p l p' q1 q2 c1 c2 (SpM.fresh n.toNat) (SpM.fresh n.toNat)) ∧
    (¬ (1 ≤ n ∧ n ≤ 1024) → e = .returned (.tuple #[.pointer none, .pointer none, .bool true])) := by
  have C1 := Lib.hid (New_any hE n)
  have C2 := Lib.hid (fun W => xNew W n)
  by_cases hn : 1 ≤ n ∧ n ≤ 1024
  · have HN := Lib.hid hn
    clear hn hE
    go_enter Tryd.func31, Tryd.ntmps31
    go_wp2_with fail
    refine C1.out.mono ?_
    rintro e w1 ⟨ho1, h1, _⟩
    obtain ⟨p, l, rfl, hs, hl⟩ := h1 HN.out
    clear h1
    go_wp2_with fail
    refine (C2.out w1).mono ?_
    rintro e w2 ⟨ho2, h1, _⟩
    obtain ⟨p', q1, q2, c1, c2, rfl, hr, r1, r2, r3⟩ := h1 HN.out
    clear h1
    go_wp2_with fail
    go_ret3
    exact ⟨ho1.trans ho2, fun _ => ⟨p, l, p', q1, q2, c1, c2, rfl, Two.mk2 ho1 hs hl ho2 hr r1 r2 r3⟩, fun h => absurd HN.out h⟩
  · have HN := Lib.hid hn
    clear hn hE
    go_enter Tryd.func31, Tryd.ntmps31
    go_wp2_with fail
    refine C1.out.mono ?_
    rintro e w1 ⟨ho1, _, h1⟩
    rw [h1 HN.out]
    clear h1
    go_wp2_with fail
    refine (C2.out w1).mono ?_
    rintro e w2 ⟨ho2, _, h1⟩
    rw [h1 HN.out]
    clear h1
    go_wp2_with fail
    go_ret3
    exact ⟨ho1.trans ho2, fun h => absurd h HN.out, fun _ => rfl⟩

set_option maxRecDepth 100000 in
set_option maxHeartbeats 8000000 in
theorem SpacePlays_walk (w : World) (hE : Env w) (pages : Int) (_ : I64 pages) (A : Option Addr) (n c : Nat) (l : List Ac) (hr : ReadsA w A n l) (hn : n ≤ 9223372036854775807) :
    Grew Tryd.prog 9 #[.int .i64 pages, .slice A n c] w (.bool true) := by
  have HE := Lib.hid hE
  have HR := Lib.hid hr
  have CG := Lib.hid (fun W => great_any W A n c hn)
  have UN : ∀ W, Unm W (.pointer none) := fun W => .inl rfl
  have CB := Lib.hid (fun W (ho : Only [] w W) => both_any W (hE.only ho (by simp)) pages)
  clear hr hE
  by_cases hg : 40 < n
  · rw [decide_eq_true hg] at CG
    go_enter Tryd.func9, Tryd.ntmps9
    go_wp2_with (first | (go_at_call 13; with_reducible refine Still.use (CG.out _) ?_) | (go_at_call 14; with_reducible refine Grew.use (alive_any _ HE.out) (fun w5 ho5 => ?_)))
    go_ret
    exact ⟨rfl, ho5⟩
  rw [decide_eq_false hg] at CG
  have CB0 := Lib.hid (CB.out w (Only.refl _ _))
  clear hg CB
  by_cases hp : 1 ≤ pages ∧ pages ≤ 1024
  · have HP := Lib.hid hp
    clear hp
    go_enter Tryd.func9, Tryd.ntmps9
    go_wp2_with (first | (go_at_call 13; with_reducible refine Still.use (CG.out _) ?_))
    refine CB0.out.mono ?_
    rintro e w1 ⟨_, h1, _⟩
    obtain ⟨p, L, p', q1, q2, c1, c2, rfl, hT⟩ := h1 HP.out
    clear h1 CB0 CG
    generalize SpM.fresh pages.toNat = m0 at *
    go_wp2_with fail
    go_loopw [5, 6, 8] (fun a b t wr => ∃ (k p : Nat) (L : List Nat) (p' q1 q2 c1 c2 : Nat), k ≤ n ∧ a = .pointer (some ⟨p, 0, none⟩) ∧ b = .pointer (some ⟨p', 0, none⟩) ∧ t = .int .i64 k ∧ Two w wr p L p' q1 q2 c1 c2 (m0.acts l k) (m0.acts l k)) (fun _ _ t _ => n - (intOf t).toNat)
    case atStart => exact ⟨0, p, L, p', q1, q2, c1, c2, Nat.zero_le _, rfl, rfl, rfl, hT⟩
    case round =>
      clear hT
      obtain ⟨k, p, L, p', q1, q2, c1, c2, hk, rfl, rfl, rfl, hT⟩ := hrel
      have ho := hT.only
      have HT := Lib.hid hT
      clear hT
      by_cases hlt : k < n
      · have d1 : decide ((k : Int) < n) = true := decide_eq_true (by omega)
        obtain ⟨hok, ad, rfl, c0, c1', c2', c3⟩ := (HR.out.still ho).at_ hlt
        have CQ := Lib.hid (fun W (h1 : Only [] w W) => (HR.out.still h1).at_ hlt)
        have HACT : Hid (m0.acts l (k + 1) = (m0.acts l k).act (vAt l k)) := rfl
        have HOK := Lib.hid hok
        have HPL := Lib.hid (fun W p L p' q1 q2 c1 c2 (h : Two w W p L p' q1 q2 c1 c2 (m0.acts l k) (m0.acts l k)) => play2 HE.out h (vAt l k) hok)
        generalize vAt l k = x at *
        generalize m0.acts l k = mk at *
        clear hok
        obtain ⟨xk, xa, xb, xc⟩ := x
        dsimp only at *
        by_cases k8 : xk = 8
        · subst k8
          have CC := Lib.hid (Clone_any HT.out.sp)
          have CX := Lib.hid (fun W (h1 : Only [] wr W) => xClone (HT.out.rf.still h1))
          go_wp2_with fail
          refine CC.out.mono ?_
          rintro e w3 ⟨ho3, p3, l3, rfl, hs3, hl3⟩
          go_wp2_with fail
          refine (CX.out w3 ho3).mono ?_
          rintro e w4 ⟨ho4, p4, r1, r2, k1, k2, rfl, hr4, b1, b2, b3⟩
          have hz := ho.size
          have T4 := Two.mk2 (ho.trans ho3) hs3 (fun b hb => Nat.le_trans hz (hl3 b hb)) ho4 hr4 b1 b2 b3
          obtain ⟨_, ad', e1, d0, d1', d2', d3⟩ := CQ.out w4 T4.only
          injection e1 with e1
          subst e1
          have CP := Lib.hid (HPL.out w4 _ _ _ _ _ _ _ T4)
          have T4H := Lib.hid T4
          clear T4 hr4 hs3 hl3 CC CX HPL c0 c1' c2' c3
          go_wp2_with fail
          refine CP.out.mono ?_
          rintro e w5 ⟨rfl, l5, T5⟩
          go_wp2_with fail
          go_roundw
          case rel => exact ⟨k + 1, p3, l5, p4, r1, r2, k1, k2, by omega, rfl, rfl, by go_num, by rw [HACT.out]; exact T5⟩
          case measure => simp [intOf]; omega
        · have d8 : (xk == 8) = false := beq_eq_false_iff_ne.2 k8
          have CP := Lib.hid (HPL.out wr _ _ _ _ _ _ _ HT.out)
          clear HPL k8
          go_wp2_with fail
          refine CP.out.mono ?_
          rintro e w5 ⟨rfl, l5, T5⟩
          go_wp2_with fail
          go_roundw
          case rel => exact ⟨k + 1, p, l5, p', q1, q2, c1, c2, by omega, rfl, rfl, by go_num, by rw [HACT.out]; exact T5⟩
          case measure => simp [intOf]; omega
      · have e : k = n := by omega
        subst e
        have d1 : decide ((k : Int) < k) = false := decide_eq_false (by omega)
        have CS := Lib.hid (same2 (HT.out.env HE.out) HT.out.sp HT.out.rf)
        go_wp2_with (first | (go_at_call 34; with_reducible refine Grew.use CS.out (fun w6 ho6 => ?_)) | (go_at_call 14; with_reducible refine Grew.use (alive_any _ (HE.out.only (ho.trans ho6) (by simp))) (fun w7 ho7 => ?_)))
        go_ret
        exact ⟨rfl, (ho.trans ho6).trans ho7⟩
  · have HP := Lib.hid hp
    clear hp
    go_enter Tryd.func9, Tryd.ntmps9
    go_wp2_with (first | (go_at_call 13; with_reducible refine Still.use (CG.out _) ?_))
    refine CB0.out.mono ?_
    rintro e w1 ⟨ho1, _, h1⟩
    rw [h1 HP.out]
    clear h1 CB0 CG
    go_wp2_with fail
    go_loopw [5, 6, 8] (fun a b t wr => ∃ (k : Nat), k ≤ n ∧ a = .pointer none ∧ b = .pointer none ∧ t = .int .i64 k ∧ Only [] w wr) (fun _ _ t _ => n - (intOf t).toNat)
    case atStart => exact ⟨0, Nat.zero_le _, rfl, rfl, rfl, ho1⟩
    case round =>
      obtain ⟨k, hk, rfl, rfl, rfl, ho⟩ := hrel
      by_cases hlt : k < n
      · have d1 : decide ((k : Int) < n) = true := decide_eq_true (by omega)
        obtain ⟨hok, ad, rfl, c0, c1', c2', c3⟩ := (HR.out.still ho).at_ hlt
        have CP := Lib.hid (nplay wr (HE.out.only ho (by simp)) (.pointer none) (.inl rfl) (vAt l k))
        generalize vAt l k = x at *
        obtain ⟨xk, xa, xb, xc⟩ := x
        dsimp only at *
        by_cases k8 : xk = 8
        · subst k8
          go_wp2_with (first | (go_at_call 22; with_reducible refine Still.use (nClone _ _ (UN _)) ?_) | (go_at_call 32; with_reducible refine Still.use (rClone _) ?_) | (go_at_call 33; with_reducible refine Grew.use CP.out (fun w6 ho6 => ?_)))
          go_roundw
          case rel => exact ⟨k + 1, by omega, rfl, rfl, by go_num, ho.trans ho6⟩
          case measure => simp [intOf]; omega
        · have d8 : (xk == 8) = false := beq_eq_false_iff_ne.2 k8
          clear k8
          go_wp2_with (first | (go_at_call 33; with_reducible refine Grew.use CP.out (fun w6 ho6 => ?_)))
          go_roundw
          case rel => exact ⟨k + 1, by omega, rfl, rfl, by go_num, ho.trans ho6⟩
          case measure => simp [intOf]; omega
      · have e : k = n := by omega
        subst e
        have d1 : decide ((k : Int) < k) = false := decide_eq_false (by omega)
        go_wp2_with (first | (go_at_call 34; with_reducible refine Still.use (nSame _ _ (UN _)) ?_) | (go_at_call 14; with_reducible refine Grew.use (alive_any _ (HE.out.only ho (by simp))) (fun w7 ho7 => ?_)))
        go_ret
        exact ⟨rfl, ho.trans ho7⟩
end Go.Proofs.YtmalmkccgjeboaaDoor

/- SpanPlays, walked. -/
import Derived.Test.YtnflfolonfmchaaSpU
set_option linter.unusedVariables false
set_option linter.unusedSimpArgs false
namespace Go.Proofs.Ytnflfolonfmchaa
open Go.RowKit

theorem only_pqpq {l : List Nat} {a b c : World} {p q p' q' : Nat} (h : Only l a b) (k : Only [p, q, p', q'] b c) (hp : a.heap.size ≤ p) (hq : a.heap.size ≤ q) (hp' : a.heap.size ≤ p') (hq' : a.heap.size ≤ q') : Only l a c :=
  h.then_ k (fun i hi => .inr (by
    have : i = p ∨ i = q ∨ i = p' ∨ i = q' := by simpa using hi
    omega))

set_option maxRecDepth 100000 in
set_option maxHeartbeats 8000000 in
theorem SpanPlays_walk (w : World) (start : Int) (hs : I64 start) (size pages batch : Int) (_ : I64 size) (_ : I64 pages) (_ : I64 batch) (A : Option Addr) (n c : Nat) (l : List (Int × Int)) (hr : ReadsA w A n l) (hn : n ≤ 9223372036854775807) :
    Grew Try.prog 8 #[.int .i64 start, .agg #[.int .i64 size, .int .i64 pages, .int .i64 batch], .slice A n c] w (.bool true) := by
  have b := Blk.new w 23 #[.int .i64 size, .int .i64 pages, .int .i64 batch]
  have ho0 := (Only.refl [] w).alloc (.cells #[.int .i64 size, .int .i64 pages, .int .i64 batch] 23)
  have HR0 := Lib.hid hr
  clear hr
  by_cases hg1 : 60 < n
  · have d0 : decide (60 < n) = true := decide_eq_true hg1
    go_enter Try.func8, Try.ntmps8
    go_wp2_with fail
    generalize w.alloc (.cells #[.int .i64 size, .int .i64 pages, .int .i64 batch] 23) = w0 at *
    refine Still.use (great_any w0 A n c hn) ?_
    go_wp2_with (first | (go_at_call 11; refine Grew.use (alive_any w0) (fun w1 ho1 => ?_)))
    go_ret
    exact ⟨rfl, ho0.trans ho1⟩
  · have d0 : decide (60 < n) = false := decide_eq_false hg1
    go_enter Try.func8, Try.ntmps8
    go_wp2_with fail
    generalize w.alloc (.cells #[.int .i64 size, .int .i64 pages, .int .i64 batch] 23) = w0 at *
    refine Still.use (great_any w0 A n c hn) ?_
    have b0 := b.cell_ 0 rfl
    have b1 := b.cell_ 1 rfl
    have b2 := b.cell_ 2 rfl
    go_wp2_with fail
    refine (New_any w0 start size pages batch hs.1 hs.2).mono ?_
    rintro e w1 ⟨hm1, hm2, ho1⟩
    have bb := b.only ho1 (by simp)
    clear b0 b1 b2 d0
    have b0 := bb.cell_ 0 rfl
    have b1 := bb.cell_ 1 rfl
    have b2 := bb.cell_ 2 rfl
    have N2 := rNew_any w1 start size pages batch
    by_cases hf : Sp.fits start size pages batch
    · obtain ⟨p, q, cap, rfl, hsp, hp, hq⟩ := hm1 hf
      replace N2 := N2.mono (fun e w' h => (⟨h.1 hf, h.2.2⟩ : (_ ∧ _)))
      clear hm1 hm2 hf
      generalize Sp.fresh start size pages batch = s at *
      have NH := Lib.hid N2
      clear N2
      go_wp2_with fail
      refine NH.out.mono ?_
      rintro e w2 ⟨⟨p', q', cap', rfl, hsp', hp', hq'⟩, ho2⟩
      have hsp2 := hsp.only ho2 (by simp) (by simp)
      have hoA := (ho0.trans ho1).trans ho2
      have z0 := ho0.size
      have z1 := ho1.size
      have z2 := ho2.size
      clear NH b0 b1 b2 bb
      go_wp2_with fail
      go_loopw [7, 9, 11] (fun a b t wr => ∃ (k p q cap p' q' cap' : Nat), k ≤ n ∧ a = .pointer (some ⟨p, 0, none⟩) ∧ b = .pointer (some ⟨p', 0, none⟩) ∧ t = .int .i64 k ∧ SpanAt wr p q cap (s.acts (l.take k)) ∧ RefAt wr p' q' cap' (s.acts (l.take k)) ∧ Only [] w wr ∧ w.heap.size ≤ p ∧ w.heap.size ≤ q ∧ w.heap.size ≤ p' ∧ w.heap.size ≤ q') (fun _ _ t _ => n - (intOf t).toNat)
      case atStart => exact ⟨0, p, q, cap, p', q', cap', Nat.zero_le _, rfl, rfl, rfl, hsp2, hsp', hoA, by omega, by omega, by omega, by omega⟩
      case round =>
        clear hsp hsp2 hsp' hp hq hp' hq'
        obtain ⟨k, p, q, cap, p', q', cap', hk, rfl, rfl, rfl, h1, h1', ho, hp, hq, hp', hq'⟩ := hrel
        have hrr := HR0.out.only ho (by simp)
        by_cases hlt : k < n
        · have HS := Lib.hid (Sp.acts_succ s l k (by rw [hrr.1]; exact hlt))
          have hi := hrr.2.1 k hlt
          obtain ⟨ad, rfl, hc⟩ := hrr.2.2 (by omega)
          obtain ⟨c1, c2⟩ := hc k hlt
          clear hc hrr
          obtain ⟨x, hx⟩ : ∃ x, x = l.getD k (0, 0) := ⟨_, rfl⟩
          rw [← hx] at c1 c2 hi HS
          clear hx
          obtain ⟨xk, xa⟩ := x
          dsimp only at c1 c2 hi
          have hz := ho.size
          by_cases k4 : xk = 4
          · subst k4
            have HA := Lib.hid (show ((s.acts (l.take k)).act ((4 : Int), xa)).2 = s.acts (l.take k) from rfl)
            go_wp2_with fail
            refine (Clone_at h1).mono ?_
            rintro e w3 ⟨p3, q3, cap3, rfl, h3, hp3, hq3, ho3⟩
            have h3' := h1'.only ho3 (by simp) (by simp)
            have z3 := ho3.size
            go_wp2_with fail
            refine (rClone_at h3').mono ?_
            rintro e w4 ⟨p4, q4, cap4, rfl, h4', hp4, hq4, ho4⟩
            have h4 := h3.only ho4 (by simp) (by simp)
            have c1 := (ho4.cell (World.block_lt_of_cell? w3 _ ((ho3.cell (World.block_lt_of_cell? wr _ c1) (by simp)).trans c1)) (by simp)).trans ((ho3.cell (World.block_lt_of_cell? wr _ c1) (by simp)).trans c1)
            have c2 := (ho4.cell (World.block_lt_of_cell? w3 _ ((ho3.cell (World.block_lt_of_cell? wr _ c2) (by simp)).trans c2)) (by simp)).trans ((ho3.cell (World.block_lt_of_cell? wr _ c2) (by simp)).trans c2)
            go_wp2_with fail
            refine (play_at h4 h4' 4 xa hi.2).mono ?_
            rintro e w5 ⟨rfl, h5, h5', ho5⟩
            go_wp2_with fail
            refine Grew.use (Same_at h5 h5') (fun w6 ho6 => ?_)
            have h6 := h5.only ho6 (by simp) (by simp)
            have h6' := h5'.only ho6 (by simp) (by simp)
            go_wp2_with fail
            go_roundw
            case rel => exact ⟨k + 1, p3, q3, cap3, p4, q4, cap4, by omega, rfl, rfl, by go_num, by rw [HS.out]; exact h6, by rw [HS.out]; exact h6', (only_pqpq (ho.trans (ho3.trans ho4)) ho5 (by omega) (by omega) (by omega) (by omega)).trans ho6, by omega, by omega, by omega, by omega⟩
            case measure => simp [intOf]; omega
          · have d4 : (xk == 4) = false := beq_eq_false_iff_ne.2 k4
            clear k4
            go_wp2_with fail
            refine (play_at h1 h1' xk xa hi.2).mono ?_
            rintro e w5 ⟨rfl, h5, h5', ho5⟩
            go_wp2_with fail
            refine Grew.use (Same_at h5 h5') (fun w6 ho6 => ?_)
            have h6 := h5.only ho6 (by simp) (by simp)
            have h6' := h5'.only ho6 (by simp) (by simp)
            go_wp2_with fail
            go_roundw
            case rel => exact ⟨k + 1, p, q, cap, p', q', cap', by omega, rfl, rfl, by go_num, by rw [HS.out]; exact h6, by rw [HS.out]; exact h6', (only_pqpq ho ho5 hp hq hp' hq').trans ho6, hp, hq, hp', hq'⟩
            case measure => simp [intOf]; omega
        · have e : k = n := by omega
          subst e
          go_wp2_with fail
          refine Grew.use (Same_at h1 h1') (fun w6 ho6 => ?_)
          go_wp2_with (first | (go_at_call 11; refine Grew.use (alive_any w6) (fun w7 ho7 => ?_)))
          go_ret
          exact ⟨rfl, (ho.trans ho6).trans ho7⟩
    · have he := hm2 hf
      subst he
      replace N2 := N2.mono (fun e w' h => (⟨h.2.1 hf, h.2.2⟩ : (_ ∧ _)))
      clear hm1 hm2 hf
      have NH := Lib.hid N2
      clear N2
      go_wp2_with fail
      refine NH.out.mono ?_
      rintro e w2 ⟨rfl, ho2⟩
      clear NH b0 b1 b2 bb
      have hoA := (ho0.trans ho1).trans ho2
      go_wp2_with fail
      go_loopw [7, 9, 11] (fun a b t wr => ∃ (k : Nat), k ≤ n ∧ a = .pointer none ∧ b = .pointer none ∧ t = .int .i64 k ∧ Only [] w wr) (fun _ _ t _ => n - (intOf t).toNat)
      case atStart => exact ⟨0, Nat.zero_le _, rfl, rfl, rfl, hoA⟩
      case round =>
        obtain ⟨k, hk, rfl, rfl, rfl, ho⟩ := hrel
        have hrr := HR0.out.only ho (by simp)
        by_cases hlt : k < n
        · have hi := hrr.2.1 k hlt
          obtain ⟨ad, rfl, hc⟩ := hrr.2.2 (by omega)
          obtain ⟨c1, c2⟩ := hc k hlt
          clear hc hrr
          obtain ⟨x, hx⟩ : ∃ x, x = l.getD k (0, 0) := ⟨_, rfl⟩
          rw [← hx] at c1 c2 hi
          clear hx
          obtain ⟨xk, xa⟩ := x
          dsimp only at c1 c2 hi
          by_cases k4 : xk = 4
          · subst k4
            go_wp2_with (first | (go_at_call 24; refine Still.use (Clone_un (unmade_nil _)) ?_) | (go_at_call 29; refine Still.use (rClone_un _) ?_) | (go_at_call 30; refine Grew.use (play_un (unmade_nil _) 4 xa) (fun w5 ho5 => ?_)) | (go_at_call 31; refine Grew.use (Same_un (unmade_nil _)) (fun w6 ho6 => ?_)))
            go_roundw
            case rel => exact ⟨k + 1, by omega, rfl, rfl, by go_num, (ho.trans ho5).trans ho6⟩
            case measure => simp [intOf]; omega
          · have d4 : (xk == 4) = false := beq_eq_false_iff_ne.2 k4
            clear k4
            go_wp2_with (first | (go_at_call 30; refine Grew.use (play_un (unmade_nil _) xk xa) (fun w5 ho5 => ?_)) | (go_at_call 31; refine Grew.use (Same_un (unmade_nil _)) (fun w6 ho6 => ?_)))
            go_roundw
            case rel => exact ⟨k + 1, by omega, rfl, rfl, by go_num, (ho.trans ho5).trans ho6⟩
            case measure => simp [intOf]; omega
        · have e : k = n := by omega
          subst e
          go_wp2_with (first | (go_at_call 31; refine Grew.use (Same_un (unmade_nil _)) (fun w6 ho6 => ?_)) | (go_at_call 11; refine Grew.use (alive_any w6) (fun w7 ho7 => ?_)))
          go_ret
          exact ⟨rfl, (ho.trans ho6).trans ho7⟩
end Go.Proofs.Ytnflfolonfmchaa

/- Lists of ints compared; a call on both sides. -/
import Derived.Test.YtnflfolonfmchaaSrD
set_option linter.unusedVariables false
set_option linter.unusedSimpArgs false
namespace Go.Proofs.Ytnflfolonfmchaa
open Go.RowKit

theorem own_reads {w : World} {base n : Nat} {v : Value} {l : List Int} (h : w.ownsRow base 3 1 v n (l.map (Value.int .i64))) : ∃ A c, v = .slice A n c ∧ ReadsI w A n l ∧ ∀ ad, A = some ad → base ≤ ad.block := by
  have hl : l.length = n := by have := h.1; simpa using this
  rcases h.2 with ⟨rfl, h0⟩ | ⟨g, cap, cur, rfl, hb, hh, _⟩
  · exact ⟨none, 0, by rw [h0], ⟨hl, fun hp => absurd hp (by omega)⟩, by simp⟩
  · refine ⟨_, cap, rfl, ⟨hl, fun _ => ⟨_, rfl, fun j hj => ?_⟩⟩, by rintro ad e; injection e with e; subst e; exact hb⟩
    rw [add_plain, h.cellAt j (by omega), List.getElem?_map, List.getElem?_eq_getElem (by omega), List.getD_eq_getElem?_getD, List.getElem?_eq_getElem (by omega)]
    rfl
theorem ReadsI.only {w w' : World} {A : Option Addr} {n : Nat} {l : List Int} {L : List Nat} (h : ReadsI w A n l) (ho : Only L w w') (hn : ∀ ad, A = some ad → ad.block ∉ L) : ReadsI w' A n l := by
  obtain ⟨h1, h2⟩ := h
  refine ⟨h1, fun h0 => ?_⟩
  obtain ⟨ad, rfl, hc⟩ := h2 h0
  refine ⟨ad, rfl, fun j hj => ?_⟩
  have hb : (ad.add j).block = ad.block := by unfold Addr.add; split <;> rfl
  exact (ho.cell (World.block_lt_of_cell? w _ (hc j hj)) (by rw [hb]; exact hn ad rfl)).trans (hc j hj)
theorem ReadsI.dr {w w' : World} {A : Option Addr} {n : Nat} {l : List Int} (h : ReadsI w A n l) (hd : Dr w w') : ReadsI w' A n l := h.only (Only.of_dr (l := []) hd) (by simp)

set_option maxHeartbeats 800000 in
theorem ints_same (w : World) (A B : Option Addr) (n c d : Nat) (l : List Int) (ha : ReadsI w A n l) (hb : ReadsI w B n l) (hn : n ≤ 1000000) : Quiet Try.prog 48 #[.slice A n c, .slice B n d] w (.bool true) := by
  go_enter Try.func48, Try.ntmps48
  go_wp2
  go_loopw [5] (fun t wr => ∃ k : Nat, k ≤ n ∧ t = .int .i64 k ∧ Dr w wr) (fun t _ => n - (intOf t).toNat)
  case atStart => exact ⟨0, Nat.zero_le _, rfl, Dr.refl _⟩
  case round =>
    obtain ⟨k, hk, rfl, hd⟩ := hrel
    by_cases hlt : k < n
    · obtain ⟨a1, rfl, hc1⟩ := (ha.dr hd).2 (by omega)
      obtain ⟨a2, rfl, hc2⟩ := (hb.dr hd).2 (by omega)
      have x1 := hc1 k hlt
      have x2 := hc2 k hlt
      clear hc1 hc2 ha hb
      generalize l.getD k 0 = x at x1 x2
      go_wp2
      go_quiet (fail)
      go_wp2
      go_roundw
      case rel => exact ⟨k + 1, by omega, by go_num, hd.drewN _⟩
      case measure => simp [intOf]; omega
    · go_wp2
      go_ret
      exact ⟨rfl, hd⟩

theorem both_ne {w : World} {p q cap p' q' cap' : Nat} {s t : Sp} (h : SpanAt w p q cap s) (h' : RefAt w p' q' cap' t) : p' ∉ [p, q] ∧ q' ∉ [p, q] ∧ p ∉ [p', q'] ∧ q ∉ [p', q'] := by
  obtain ⟨c1, b1, _⟩ := h.row
  obtain ⟨c2, b2, _⟩ := h'.row
  have n1 := h.head.ne_ h'.head (by decide)
  have n2 := h.head.ne_ b2 (by decide)
  have n3 := b1.ne_ h'.head (by decide)
  have n4 := b1.ne_ b2 (by decide)
  simp
  omega

set_option maxRecDepth 100000 in
set_option maxHeartbeats 4000000 in
theorem play_at {w p q cap p' q' cap' s} (h : SpanAt w p q cap s) (h' : RefAt w p' q' cap' s) (k a : Int) (ha : I64 a) :
    Calls Try.prog 30 #[.pointer (some ⟨p, 0, none⟩), .pointer (some ⟨p', 0, none⟩), .agg #[.int .i64 k, .int .i64 a]] w fun e w' =>
      e = .returned (.bool true) ∧ SpanAt w' p q cap (s.act (k, a)).2 ∧ RefAt w' p' q' cap' (s.act (k, a)).2 ∧ Only [p, q, p', q'] w w' := by
  obtain ⟨ha0, ha1⟩ := ha
  obtain ⟨n1, n2, n3, n4⟩ := both_ne h h'
  have h1 := h.alloc (.cells #[.int .i64 k, .int .i64 a] 37)
  have h1' := h'.alloc (.cells #[.int .i64 k, .int .i64 a] 37)
  have ho1 := (Only.refl [p, q, p', q'] w).alloc (.cells #[.int .i64 k, .int .i64 a] 37)
  have b1 := Blk.new w 37 #[.int .i64 k, .int .i64 a]
  have hpl := h.ltp
  have hql := h.ltq
  have hpl' := h'.ltp
  have hql' := h'.ltq
  have nb : w.heap.size ∉ [p, q] ∧ w.heap.size ∉ [p', q'] := by simp <;> omega
  have sub1 : ∀ i, i ∈ [p, q] → i ∈ [p, q, p', q'] := by simp <;> omega
  have sub2 : ∀ i, i ∈ [p', q'] → i ∈ [p, q, p', q'] := by simp <;> omega
  have S1 := Lib.hid sub1
  have S2 := Lib.hid sub2
  have NB := Lib.hid nb
  have N := Lib.hid (⟨n1, n2, n3, n4⟩ : _ ∧ _ ∧ _ ∧ _)
  clear sub1 sub2 nb n1 n2 n3 n4
  by_cases k0 : k = 0
  · rw [show s.act (k, a) = (s.take.1.2, s.take.2) by unfold Sp.act; rw [if_pos k0]]
    subst k0
    go_enter Try.func30, Try.ntmps30
    go_wp2_with (first | (go_at_call 22; refine (Take_at h1).mono ?_; rintro e w2 ⟨rfl, h2, ho2⟩; have h2' := h1'.only ho2 N.out.1 N.out.2.1) | (go_at_call 41; refine (rTake_at h2').mono ?_; rintro e w3 ⟨rfl, h3', ho3⟩; have h3 := h2.only ho3 N.out.2.2.1 N.out.2.2.2))
    go_ret
    exact ⟨rfl, h3, h3', (ho1.trans (ho2.mono S1.out)).trans (ho3.mono S2.out)⟩
  · have d0 : (k == 0) = false := beq_eq_false_iff_ne.2 k0
    by_cases k1 : k = 1
    · rw [show s.act (k, a) = s.free a by unfold Sp.act; rw [if_neg k0, if_pos k1]]
      subst k1
      go_enter Try.func30, Try.ntmps30
      go_wp2_with fail
      have b1d := b1.drew
      go_region_held3 (fun w' => w'.cell? ⟨w.heap.size, 0, none⟩ = some (.int .i64 1) ∧ w'.cell? ⟨w.heap.size, 1, none⟩ = some (.int .i64 a))
        (refine ⟨Blk.cell_ (t := 37) (cs := #[.int .i64 1, .int .i64 a]) ?_ 0 rfl, Blk.cell_ (t := 37) (cs := #[.int .i64 1, .int .i64 a]) ?_ 1 rfl⟩ <;> assumption)
        (first
          | (go_at_call 23; refine (Put_at h1.drew a ha0 ha1).mono ?_; rintro e w2 ⟨rfl, h2, ho2⟩; have h2' := h1'.drew.only ho2 N.out.1 N.out.2.1; have b2 := b1d.only ho2 NB.out.1)
          | (go_at_call 42; refine (rPut_at h2' a).mono ?_; rintro e w3 ⟨rfl, h3', ho3⟩; have h3 := h2.only ho3 N.out.2.2.1 N.out.2.2.2; have b3 := b2.only ho3 NB.out.2))
      go_wp2
      go_ret
      exact ⟨rfl, h3, h3', (ho1.drew.trans (ho2.mono S1.out)).trans (ho3.mono S2.out)⟩
    · have d1 : (k == 1) = false := beq_eq_false_iff_ne.2 k1
      by_cases k2 : k = 2
      · rw [show s.act (k, a) = ((s.idx a).2, s) by unfold Sp.act; rw [if_neg k0, if_neg k1, if_pos k2]]
        subst k2
        go_enter Try.func30, Try.ntmps30
        go_wp2_with (first | (go_at_call 14; refine Quiet.use (Index_at h1 a ha0 ha1) (fun n => ?_)) | (go_at_call 43; refine Quiet.use (rIndex_at (h1'.drewN _) a) (fun m => ?_)))
        go_ret
        exact ⟨rfl, h1.drewN _, h1'.drewN _, ho1.drewN _⟩
      · have d2 : (k == 2) = false := beq_eq_false_iff_ne.2 k2
        by_cases k3 : k = 3
        · rw [show s.act (k, a) = ((s.tkn a).2, s) by unfold Sp.act; rw [if_neg k0, if_neg k1, if_neg k2, if_pos k3]]
          subst k3
          generalize hx : s.tkn a = x at *
          have HX := Lib.hid hx
          clear hx
          have I1 := fun n => IsTaken_at (h1.drewN n) a ha0 ha1
          have I2 := fun n => rIsTaken_at (h1'.drewN n) a
          rw [HX.out] at I1 I2
          have J1 := Lib.hid I1
          have J2 := Lib.hid I2
          clear I1 I2
          go_enter Try.func30, Try.ntmps30
          go_wp2_with (first | (go_at_call 16; refine Quiet.use (J1.out 0) (fun n => ?_)) | (go_at_call 44; refine Quiet.use (J2.out _) (fun m => ?_)))
          go_ret
          exact ⟨rfl, h1.drewN _, h1'.drewN _, ho1.drewN _⟩
        · rw [show s.act (k, a) = (0, s) by unfold Sp.act; rw [if_neg k0, if_neg k1, if_neg k2, if_neg k3]]
          have d3 : (k == 3) = false := beq_eq_false_iff_ne.2 k3
          clear k0 k1 k2 k3
          go_enter Try.func30, Try.ntmps30
          go_wp2_with fail
          go_ret
          exact ⟨rfl, h1, h1', ho1⟩
end Go.Proofs.Ytnflfolonfmchaa

/- Contracts of ContainsFunc, Index and Contains over pages. -/
import Derived.Test.YtmalmkccgjeboaaDoorVC
set_option linter.unusedVariables false
set_option linter.unusedSimpArgs false
namespace Go.Proofs.YtmalmkccgjeboaaDoor
open Go.RowKit

theorem ContainsFunc_any (w : World) (hE : Env w) (A : Option Addr) (n c : Nat) (f : Nat → Int) (hr : ReadsP w A n f) (hn : n ≤ 9223372036854775807) (hf : ∀ k, f k = 0 ∨ f k = 1 ∨ f k = 2) :
    Grew Tryd.prog 45 #[.slice A n c, .func (.func 46) #[] #[]] w (.bool (anyTo (fun v => v != 0) f n)) := by
  have C := Lib.hid (IndexFunc_any w hE A n c f hr hn hf)
  go_enter Tryd.func45, Tryd.ntmps45
  go_wp2_with fail
  refine C.out.mono ?_
  rintro e w1 ⟨ho, i, rfl, hi⟩
  go_wp2_with fail
  go_ret
  exact ⟨rfl, ho⟩

set_option maxHeartbeats 1600000 in
theorem Index_any (w : World) (A : Option Addr) (n c : Nat) (f : Nat → Int) (hr : ReadsP w A n f) (hn : n ≤ 9223372036854775807) (hf : ∀ k, f k = 0 ∨ f k = 1 ∨ f k = 2) :
    Calls Tryd.prog 76 #[.slice A n c, .agg #[.bool false, .bool false]] w fun e w' => Only [] w w' ∧ ∃ i : Int, e = .returned (.int .i64 i) ∧ (decide (0 ≤ i) = anyTo (fun v => v == 0) f n) := by
  have ho0 := (Only.refl [] w).alloc (.cells #[.bool false, .bool false] 70)
  have b := Blk.new w 70 #[.bool false, .bool false]
  have b0 := b.cell_ 0 rfl
  have b1 := b.cell_ 1 rfl
  have HR := Lib.hid (hr.still ho0)
  have HF := Lib.hid hf
  clear hr hf b
  go_enter Tryd.func76, Tryd.ntmps76
  go_wp2_with fail
  generalize w.alloc (.cells #[.bool false, .bool false] 70) = w0 at *
  go_loopw [8] (fun t wr => ∃ k : Nat, k ≤ n ∧ t = .int .i64 k ∧ Only [] w0 wr ∧ Hid (anyTo (fun v => v == 0) f k = false)) (fun t _ => n - (intOf t).toNat)
  case atStart => exact ⟨0, Nat.zero_le _, rfl, Only.refl _ _, rfl⟩
  case round =>
    obtain ⟨k, hk, rfl, ho, HK⟩ := hrel
    by_cases hlt : k < n
    · obtain ⟨ad, rfl, hc⟩ := HR.out.still ho (by omega)
      obtain ⟨c1, c2⟩ := hc k hlt
      have hxy : (f k == 2) = true → (f k != 0) = true := by have := HF.out k; intro h; rw [beq_iff_eq] at h; rw [h]; rfl
      have HA : Hid (anyTo (fun v => v == 0) f (k + 1) = (anyTo (fun v => v == 0) f k || (f k == 0))) := rfl
      have HT := Lib.hid (fun (h : (f k == 0) = true) => (anyTo_true (q := fun v => v == 0) (f := f) (n := n)).2 ⟨k, hlt, h⟩)
      have hz : (f k == 0) = !(f k != 0) := by simp [bne]
      rw [hz] at HA HT
      have g0 := cell_after ((ho.cell (World.block_lt_of_cell? _ _ b0) (by simp)).trans b0)
      have g1 := cell_after ((ho.cell (World.block_lt_of_cell? _ _ b1) (by simp)).trans b1)
      have h1 := cell_after c1
      have h2 := cell_after c2
      clear hc hz c1 c2
      generalize (f k != 0) = x at *
      generalize (f k == 2) = y at *
      cases x
      · have hy : y = false := by cases y; rfl; exact absurd (hxy rfl) (by simp)
        subst hy
        have HN2 := Lib.hid (HT.out rfl)
        clear HA HT hxy
        go_wp2_with fail
        refine wp_region_grew (by kernel_rfl) (by kernel_rfl) ?_
        repeat (go_big_quiet_step (fail))
        refine wpQuiet_nil ?_
        rintro _ ⟨⟨w2, ho2⟩, rfl⟩
        go_wp2_with fail
        go_ret
        exact ⟨ho0.trans (ho.trans ho2), k, rfl, by rw [HN2.out]; simp⟩
      · have HN2 := Lib.hid (HA.out.trans (by rw [HK.out]))
        cases y
        all_goals
          clear HA HT hxy
          go_wp2_with fail
          refine wp_region_grew (by kernel_rfl) (by kernel_rfl) ?_
          repeat (go_big_quiet_step (fail))
          refine wpQuiet_nil ?_
          rintro _ ⟨⟨w2, ho2⟩, rfl⟩
          go_wp2_with fail
          go_roundw
          case rel => exact ⟨k + 1, by omega, by go_num, ho.trans ho2, HN2⟩
          case measure => simp [intOf]; omega
    · have e : k = n := by omega
      subst e
      go_wp2_with fail
      go_ret
      exact ⟨ho0.trans ho, -1, rfl, by rw [HK.out]; rfl⟩

theorem Contains_any (w : World) (A : Option Addr) (n c : Nat) (f : Nat → Int) (hr : ReadsP w A n f) (hn : n ≤ 9223372036854775807) (hf : ∀ k, f k = 0 ∨ f k = 1 ∨ f k = 2) :
    Grew Tryd.prog 67 #[.slice A n c, .agg #[.bool false, .bool false]] w (.bool (anyTo (fun v => v == 0) f n)) := by
  have ho0 := (Only.refl [] w).alloc (.cells #[.bool false, .bool false] 70)
  have b := Blk.new w 70 #[.bool false, .bool false]
  have b0 := b.cell_ 0 rfl
  have b1 := b.cell_ 1 rfl
  have C := Lib.hid (Index_any _ A n c f (hr.still ho0) hn hf)
  clear hr
  go_enter Tryd.func67, Tryd.ntmps67
  go_wp2_with fail
  refine C.out.mono ?_
  rintro e w1 ⟨ho, i, rfl, hi⟩
  go_wp2_with fail
  go_ret
  exact ⟨rfl, ho0.trans ho⟩
end Go.Proofs.YtmalmkccgjeboaaDoor

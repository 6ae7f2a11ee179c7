/- Contracts of Valid, the program's. -/
import Derived.Test.YtgicapdiiknbiaaSzB
import Derived.Test.YtgicapdiiknbiaaGrew
set_option linter.unusedVariables false
set_option linter.unusedSimpArgs false
namespace Go.Proofs.Ytgicapdiiknbiaa
open Go.RowKit

theorem not_table_at {l : List Cl} {k : Nat} (hk : k < l.length) (h : ¬ ((cAt l k).ok ∧ (0 < k → (cAt l (k - 1)).s < (cAt l k).s))) : ¬ isTable l := fun ht => h (ht.2.2 k hk)

set_option maxHeartbeats 4000000 in
theorem Valid_any (w : World) (A : Option Addr) (n c : Nat) (l : List Cl) (hr : ReadsC w A n l) (hn : n ≤ 9223372036854775807) : Grew Try.prog 18 #[.slice A n c] w (.bool (decide (isTable l))) := by
  have hl := hr.1
  by_cases hs : 1 ≤ n ∧ n ≤ 40
  · obtain ⟨hs1, hs2⟩ := hs
    have HR := Lib.hid hr
    have HL := Lib.hid hl
    clear hr hl
    go_enter Try.func18, Try.ntmps18
    go_wp2_with fail
    go_loopw [15] (fun t wr => ∃ k : Nat, k ≤ n ∧ t = .int .i64 k ∧ Only [] w wr ∧ Hid (validTo l k)) (fun t _ => n - (intOf t).toNat)
    case atStart => exact ⟨0, Nat.zero_le _, rfl, Only.refl _ _, fun i hi => absurd hi (by omega)⟩
    case round =>
      obtain ⟨k, hk, rfl, ho, HV⟩ := hrel
      by_cases hlt : k < n
      · obtain ⟨ad, rfl, c1, c2, c3⟩ := (HR.out.still ho).at_ hlt
        have HNT := Lib.hid (not_table_at (l := l) (k := k) (by rw [HL.out]; exact hlt))
        have HVS := Lib.hid (validTo_succ (l := l) (k := k) HV.out)
        have C := fun W => one_any W (cAt l k)
        unfold Cl.val at C
        have HP : 0 < k → (wr.cell? (ad.add ((k - 1) * 3)) = some (.int .i64 (cAt l (k - 1)).s)) := fun h0 => by
          obtain ⟨_, e, p1, _, _⟩ := (HR.out.still ho).at_ (k := k - 1) (by omega)
          injection e with e
          subst e
          exact p1
        generalize cAt l k = x at c1 c2 c3 C HNT HVS
        obtain ⟨xs, xp, xb⟩ := x
        dsimp only at c1 c2 c3 C HNT HVS
        go_wp2_with fail
        have b := Blk.new wr 24 #[.int .i64 xs, .int .i64 xp, .int .i64 xb]
        have ho1 := ho.alloc (.cells #[.int .i64 xs, .int .i64 xp, .int .i64 xb] 24)
        have HP1 : 0 < k → ((wr.alloc (.cells #[.int .i64 xs, .int .i64 xp, .int .i64 xb] 24)).cell? (ad.add ((k - 1) * 3)) = some (.int .i64 (cAt l (k - 1)).s)) := fun h0 => by
          have h := HP h0
          exact ((Only.refl [] wr).alloc _).cell (World.block_lt_of_cell? _ _ h) (by simp) |>.trans h
        clear c1 c2 c3 HP
        generalize wr.alloc (.cells #[.int .i64 xs, .int .i64 xp, .int .i64 xb] 24) = w1 at *
        have g0 := cell_after (b.cell_ 0 rfl)
        have g1 := cell_after (b.cell_ 1 rfl)
        have g2 := cell_after (b.cell_ 2 rfl)
        by_cases hone : Cl.ok ⟨xs, xp, xb⟩
        · rw [decide_eq_true hone] at C
          have CH := Lib.hid C
          have HON := Lib.hid hone
          clear C hone
          rcases Nat.eq_zero_or_pos k with e0 | h0
          · have d0 : decide ((0 : Int) < (k : Int)) = false := decide_eq_false (by omega)
            have HN := Lib.hid (HVS.out HON.out (fun h => absurd h (by omega)))
            clear HVS HNT HP1
            refine wp_region_grew (by kernel_rfl) (by kernel_rfl) ?_
            repeat (go_big_quiet_step (first | (go_at_call 31; exact Grew.g (CH.out _))))
            refine wpQuiet_nil ?_
            rintro _ ⟨⟨w2, ho2⟩, rfl⟩
            go_wp2
            go_roundw
            case rel => exact ⟨k + 1, by omega, by go_num, ho1.trans ho2, HN⟩
            case measure => simp [intOf]; omega
          · obtain ⟨k', hk'⟩ : ∃ k', k = k' + 1 := ⟨k - 1, by omega⟩
            have hkk : k - 1 = k' := by omega
            have d0 : decide ((0 : Int) < (k : Int)) = true := decide_eq_true (by omega)
            have g3 := cell_after (HP1 h0)
            rw [hkk] at g3 HNT HVS
            generalize (cAt l k').s = ys at *
            have e1 : IntKind.i64.wrap ((k : Int) - 1) = k' := by rw [IntWalk.i64_in _ (by omega)]; omega
            have e2 : ((k : Int) - 1) = k' := by omega
            by_cases hlt2 : ys < xs
            · have HN := Lib.hid (HVS.out HON.out (fun _ => hlt2))
              have d1 : decide (xs ≤ ys) = false := decide_eq_false (by omega)
              clear HVS HNT HP1
              refine wp_region_grew (by kernel_rfl) (by kernel_rfl) ?_
              repeat (go_big_quiet_step (first | (go_at_call 31; exact Grew.g (CH.out _))))
              refine wpQuiet_nil ?_
              rintro _ ⟨⟨w2, ho2⟩, rfl⟩
              go_wp2
              go_roundw
              case rel => exact ⟨k + 1, by omega, by go_num, ho1.trans ho2, HN⟩
              case measure => simp [intOf]; omega
            · have HN := Lib.hid (HNT.out (fun h => hlt2 (h.2 (by omega))))
              have d1 : decide (xs ≤ ys) = true := decide_eq_true (by omega)
              clear HVS HNT HP1
              refine wp_region_grew (by kernel_rfl) (by kernel_rfl) ?_
              repeat (go_big_quiet_step (first | (go_at_call 31; exact Grew.g (CH.out _))))
              refine wpQuiet_nil ?_
              rintro _ ⟨⟨w2, ho2⟩, rfl⟩
              go_wp2
              go_ret
              exact ⟨by rw [decide_eq_false HN.out]; rfl, ho1.trans ho2⟩
        · rw [decide_eq_false hone] at C
          have HN := Lib.hid (HNT.out (fun h => hone h.1))
          have CH := Lib.hid C
          clear C hone HVS HNT HP1
          refine wp_region_grew (by kernel_rfl) (by kernel_rfl) ?_
          repeat (go_big_quiet_step (first | (go_at_call 31; exact Grew.g (CH.out _))))
          refine wpQuiet_nil ?_
          rintro _ ⟨⟨w2, ho2⟩, rfl⟩
          go_wp2
          go_ret
          exact ⟨by rw [decide_eq_false HN.out]; rfl, ho1.trans ho2⟩
      · have e : k = n := by omega
        have HT : Hid (isTable l) := ⟨by rw [HL.out]; exact hs1, by rw [HL.out]; exact hs2, by rw [HL.out, ← e]; exact HV.out⟩
        subst e
        go_wp2_with fail
        go_ret
        exact ⟨by rw [decide_eq_true HT.out]; rfl, ho⟩
  · rw [decide_eq_false (show ¬ isTable l from fun h => hs ⟨by rw [← hl]; exact h.1, by rw [← hl]; exact h.2.1⟩)]
    clear hr hl
    by_cases h1 : n < 1
    · have e : n = 0 := by omega
      subst e
      go_enter Try.func18, Try.ntmps18
      go_wp2_with fail
      go_ret
      exact ⟨rfl, Only.refl _ _⟩
    · have h2 : 40 < n := by omega
      clear hs
      go_enter Try.func18, Try.ntmps18
      go_wp2_with fail
      go_ret
      exact ⟨rfl, Only.refl _ _⟩
end Go.Proofs.Ytgicapdiiknbiaa

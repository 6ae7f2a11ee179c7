/- Contracts of access and counted. -/
import Derived.Test.YtmalmkccgjeboaaDoorVF
set_option linter.unusedVariables false
set_option linter.unusedSimpArgs false
namespace Go.Proofs.YtmalmkccgjeboaaDoor
open Go.RowKit

/-- The page of the last of some words. -/
def lastP (addr words : Int) : Int := (addr / 8 + words - 1) / 32
namespace SpM
/-- Why words cannot be accessed. -/
def acc (m : SpM) (addr words : Int) : Int :=
  if words = 0 then 0 else if addr < 0 ∨ addr % 8 ≠ 0 then 7 else if (m.n : Int) ≤ lastP addr words then 7
  else if anyTo (fun v => v == 0) (fun k => m.st (((addr / 256).toNat : Int) + k)) ((lastP addr words + 1).toNat - (addr / 256).toNat) then 7 else 0
def cnt (m : SpM) (addr words : Int) : Int := if words < 0 ∨ 32768 < words then 1 else m.acc addr words
end SpM

set_option maxRecDepth 100000 in
set_option maxHeartbeats 4000000 in
theorem access_any {w : World} (hE : Env w) {p : Nat} {l : List Nat} {m : SpM} (h : SpaceAt w p l m) (addr words : Int) (ha : I64 addr) (hw1 : 0 ≤ words) (hw2 : words ≤ 32768) :
    Grew Tryd.prog 37 #[.pointer (some ⟨p, 0, none⟩), .int .i64 addr, .int .i64 words] w (.int .i64 (m.acc addr words)) := by
  have CM := Lib.hid (made_any h)
  by_cases h0 : words = 0
  · have E := Lib.hid (show m.acc addr words = 0 by unfold SpM.acc; rw [if_pos h0])
    subst h0
    clear h hE
    go_enter Tryd.func37, Tryd.ntmps37
    go_wp2_with (first | (go_at_call 40; refine Still.use CM.out ?_))
    go_ret
    exact ⟨by rw [E.out]; rfl, Only.refl _ _⟩
  · have d0 : (words == 0) = false := beq_eq_false_iff_ne.2 h0
    by_cases h1 : addr < 0 ∨ addr % 8 ≠ 0
    · have E := Lib.hid (show m.acc addr words = 7 by unfold SpM.acc; rw [if_neg h0, if_pos h1])
      clear h hE
      by_cases h2 : addr < 0
      · have d1 : decide (addr < 0) = true := decide_eq_true h2
        clear h1 h2
        go_enter Tryd.func37, Tryd.ntmps37
        go_wp2_with (first | (go_at_call 40; refine Still.use CM.out ?_))
        go_ret
        exact ⟨by rw [E.out]; rfl, Only.refl _ _⟩
      · have d1 : decide (addr < 0) = false := decide_eq_false h2
        have h3 : addr % 8 ≠ 0 := by omega
        have d2 : (addr % 8 == 0) = false := beq_eq_false_iff_ne.2 h3
        have d3 : (addr % 8 != 0) = true := bne_iff_ne.2 h3
        clear h1
        go_enter Tryd.func37, Tryd.ntmps37
        go_wp2_with (first | (go_at_call 40; refine Still.use CM.out ?_))
        go_ret
        exact ⟨by rw [E.out]; rfl, Only.refl _ _⟩
    · have h2 : 0 ≤ addr := by omega
      have d1 : decide (addr < 0) = false := decide_eq_false (by omega)
      have h3 : addr % 8 = 0 := by omega
      have d2 : (addr % 8 == 0) = true := beq_iff_eq.2 h3
      have ha' := ha
      unfold I64 at ha'
      obtain ⟨ha1, ha2⟩ := ha'
      have t1 : addr.tdiv 256 = addr / 256 := Int.tdiv_eq_ediv_of_nonneg h2
      have t2 : addr.tdiv 8 = addr / 8 := Int.tdiv_eq_ediv_of_nonneg h2
      have t3 : (addr / 8 + words - 1).tdiv 32 = lastP addr words := Int.tdiv_eq_ediv_of_nonneg (by omega)
      have q1 : 0 ≤ addr / 8 := by omega
      have q2 : 0 ≤ addr / 256 := by omega
      have q3 : addr / 256 ≤ lastP addr words := by unfold lastP; omega
      have q4 : lastP addr words ≤ 1000000000000000000 := by unfold lastP; omega
      have HL : Hid (lastP addr words = (addr / 8 + words - 1) / 32) := rfl
      have HA : Hid (m.acc addr words = if (m.n : Int) ≤ lastP addr words then 7 else if anyTo (fun v => v == 0) (fun k => m.st (((addr / 256).toNat : Int) + k)) ((lastP addr words + 1).toNat - (addr / 256).toNat) then 7 else 0) := by
        show _ = _
        unfold SpM.acc
        rw [if_neg h0, if_neg h1]
      obtain ⟨hg, h3', h4, gp, cap, gm, G, hp⟩ := h
      have z0 := cell_after (hp.blk.cell_ 0 rfl)
      have u0 := cell_after hE.u0
      have u1 := cell_after hE.u1
      have hn2 := hg.n2
      have hcap := hp.cap_
      have HS1 := Lib.hid hg.s1
      have HROW := Lib.hid hp.row
      clear hp hg hE h1
      by_cases h5 : (m.n : Int) ≤ lastP addr words
      · have E := Lib.hid (HA.out.trans (if_pos h5))
        have d5 : decide ((m.n : Int) ≤ lastP addr words) = true := decide_eq_true h5
        generalize m.n = n at *
        go_enter Tryd.func37, Tryd.ntmps37
        go_wp2_with (first | (go_at_call 40; refine Still.use CM.out ?_))
        refine wp_region_grew (by kernel_rfl) (by kernel_rfl) ?_
        repeat (go_big_quiet_step (fail))
        refine wpQuiet_nil ?_
        rintro _ ⟨⟨w2, ho2⟩, rfl⟩
        go_wp2_with fail
        go_ret
        exact ⟨by rw [E.out]; rfl, ho2⟩
      · have HB := Lib.hid (HA.out.trans (if_neg h5))
        have d5 : decide ((m.n : Int) ≤ lastP addr words) = false := decide_eq_false h5
        have CC := Lib.hid (fun (u : After w) => Contains_any u.w' (some ⟨gp, (addr / 256).toNat * 2, none⟩) ((lastP addr words + 1).toNat - (addr / 256).toNat) (cap - (addr / 256).toNat) _
          ((HROW.out.reads (a := ((addr / 256).toNat : Int)) (b := (lastP addr words + 1).toNat - (addr / 256).toNat) (by omega) (by omega)).still u.ok) (by omega) (fun k => HS1.out _))
        generalize anyTo (fun v => v == 0) (fun k => m.st (((addr / 256).toNat : Int) + k)) ((lastP addr words + 1).toNat - (addr / 256).toNat) = q at *
        generalize m.n = n at *
        have hq : I64 (lastP addr words + 1) := by unfold I64; omega
        go_enter Tryd.func37, Tryd.ntmps37
        go_wp2_with (first | (go_at_call 40; refine Still.use CM.out ?_))
        generalize lastP addr words = lp at *
        cases q
        all_goals
          have E := Lib.hid HB.out
          refine wp_region_grew (by kernel_rfl) (by kernel_rfl) ?_
          repeat (go_big_quiet_step (first | (go_at_call 67; with_reducible exact Grew.g (CC.out _))))
          refine wpQuiet_nil ?_
          rintro _ ⟨⟨w2, ho2⟩, rfl⟩
          go_wp2_with fail
          go_ret
          exact ⟨by rw [E.out]; rfl, ho2⟩
end Go.Proofs.YtmalmkccgjeboaaDoor

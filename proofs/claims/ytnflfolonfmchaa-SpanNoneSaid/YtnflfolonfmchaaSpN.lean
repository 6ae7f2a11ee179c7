/- SpanApart, walked. -/
import Derived.Test.YtnflfolonfmchaaSpM
set_option linter.unusedVariables false
set_option linter.unusedSimpArgs false
namespace Go.Proofs.Ytnflfolonfmchaa
open Go.RowKit

theorem pow_two_dvd {p : Int} (h : ∃ j : Nat, j ≤ 9 ∧ p = 2 ^ j) (hp : p ≤ 256) : p ∣ 256 := by
  obtain ⟨j, hj, rfl⟩ := h
  match j, hj with
  | 0, _ => decide
  | 1, _ => decide
  | 2, _ => decide
  | 3, _ => decide
  | 4, _ => decide
  | 5, _ => decide
  | 6, _ => decide
  | 7, _ => decide
  | 8, _ => decide
  | 9, _ => exact absurd hp (by decide)
theorem pow_two_next {p : Int} (h : ∃ j : Nat, j ≤ 9 ∧ p = 2 ^ j) (hp : p ≤ 256) : ∃ j : Nat, j ≤ 9 ∧ 2 * p = 2 ^ j := by
  obtain ⟨j, hj, rfl⟩ := h
  refine ⟨j + 1, ?_, by rw [Int.pow_succ]; omega⟩
  rcases Nat.lt_or_ge j 9 with h | h
  · omega
  · have : j = 9 := by omega
    subst this
    exact absurd hp (by decide)
theorem mod_addr {p start i size : Int} (hp : p ∣ 256) (h : size % p = 0) : (start * 256 + i * size) % p = 0 := by
  apply Int.emod_eq_zero_of_dvd
  exact Int.dvd_add (Int.dvd_mul_of_dvd_right hp) (Int.dvd_mul_of_dvd_right (Int.dvd_of_emod_eq_zero h))

theorem idx_of_obj {s : Sp} (hg : s.Good) {i m : Int} (h0 : 0 ≤ i) (h1 : i < s.st.length) (hm0 : 0 ≤ m) (hm : m < s.size) : s.idx (s.start * 256 + i * s.size + m) = (i, 0) := by
  have e : (s.start * 256 + i * s.size + m - s.start * 256) = i * s.size + m := by omega
  have hs := hg.s1
  have hle : i * s.size + m < (i + 1) * s.size := by rw [Int.add_mul]; omega
  have hle2 : (i + 1) * s.size ≤ (s.st.length : Int) * s.size := Int.mul_le_mul_of_nonneg_right (by omega) (by omega)
  have hge : 0 ≤ i * s.size := Int.mul_nonneg h0 (by omega)
  have hd : (i * s.size + m) / s.size = i := by
    rw [Int.add_comm, Int.add_mul_ediv_right _ _ (by omega), Int.ediv_eq_zero_of_lt hm0 hm]
    omega
  unfold Sp.idx
  rw [if_neg (by omega), e, if_neg (by omega), hd]

theorem idx_last {s : Sp} (hg : s.Good) : (s.idx ((s.start + s.pages) * 256 - 1)).2 = if s.pages * 256 - (s.st.length : Int) * s.size > 0 then 8 else 0 := by
  have h1 := hg.p1
  unfold Sp.idx
  rw [if_neg (by omega)]
  by_cases h : (s.st.length : Int) * s.size ≤ (s.start + s.pages) * 256 - 1 - s.start * 256
  · rw [if_pos h, if_pos (by omega)]
  · rw [if_neg h, if_neg (by omega)]

set_option maxRecDepth 100000 in
set_option maxHeartbeats 4000000 in
theorem SpanApart_walk (w : World) (start : Int) (hs : I64 start) (size pages batch : Int) (_ : I64 size) (_ : I64 pages) (_ : I64 batch) (i : Int) (hi : I64 i) (more : Int) (hm : I64 more) :
    Grew Try.prog 3 #[.int .i64 start, .agg #[.int .i64 size, .int .i64 pages, .int .i64 batch], .int .i64 i, .int .i64 more] w (.bool true) := by
  obtain ⟨hi1, hi2⟩ := hi
  obtain ⟨hm1, hm2⟩ := hm
  have b := Blk.new w 23 #[.int .i64 size, .int .i64 pages, .int .i64 batch]
  have ho0 := (Only.refl [] w).alloc (.cells #[.int .i64 size, .int .i64 pages, .int .i64 batch] 23)
  have M := made_any (w.alloc (.cells #[.int .i64 size, .int .i64 pages, .int .i64 batch] 23)) start size pages batch hs none 0 0 [] ⟨rfl, fun j hj => absurd hj (by omega), fun h => absurd h (by omega)⟩ (by omega)
  by_cases hf : Sp.fits start size pages batch
  · have HF := Lib.hid hf
    have HG := Lib.hid (Sp.fresh_good hf)
    have hone := hf.1
    have hst0 := hf.2.1
    have hst1 := hf.2.2
    have hsz1 := hone.1
    have hsz2 := hone.2.1
    have hpg1 := hone.2.2.2.1
    have hpg2 := hone.2.2.2.2.1
    have HO := Lib.hid hone
    replace M := M.mono (fun e w' h => (⟨h.1 hf, h.2.2⟩ : (_ ∧ _)))
    clear hf hone
    have hgood := HG.out
    have hlen : ((Sp.fresh start size pages batch).st.length : Int) = pages * 256 / size := by
      simp only [Sp.fresh, List.length_replicate]
      exact Int.toNat_of_nonneg (Int.ediv_nonneg (by omega) (by omega))
    have HS : Hid ((Sp.fresh start size pages batch).start = start ∧ (Sp.fresh start size pages batch).size = size ∧ (Sp.fresh start size pages batch).pages = pages ∧ (Sp.fresh start size pages batch).acts [] = Sp.fresh start size pages batch ∧ ∀ j, (Sp.fresh start size pages batch).st.getD j 0 = 0) := ⟨rfl, rfl, rfl, rfl, fun j => by
      simp only [Sp.fresh, List.getD_eq_getElem?_getD, List.getElem?_replicate]
      split <;> rfl⟩
    have HL := Lib.hid hlen
    clear hlen hgood
    rw [HS.out.2.2.2.1] at M
    have n1 := HG.out.n1
    have n2 := HG.out.len
    generalize Sp.fresh start size pages batch = s at *
    have b0 := b.cell_ 0 rfl
    have b1 := b.cell_ 1 rfl
    have b2 := b.cell_ 2 rfl
    go_enter Try.func3, Try.ntmps3
    go_wp2_with fail
    generalize w.alloc (.cells #[.int .i64 size, .int .i64 pages, .int .i64 batch] 23) = w0 at *
    refine M.mono ?_
    rintro e w1 ⟨⟨p, q, cap, rfl, hsp, hp, hq⟩, ho1⟩
    clear M b0 b1 b2
    have bb1 := b.only ho1 (by simp)
    have b0 := bb1.cell_ 0 rfl
    have b1 := bb1.cell_ 1 rfl
    have b2 := bb1.cell_ 2 rfl
    go_wp2_with fail
    refine Still.use (Objects_at hsp) ?_
    go_wp2_with fail
    refine Grew.use (robj_any w1 size pages batch HO.out) (fun w2 ho2 => ?_)
    rw [← HL.out]
    have hsp2 := hsp.only ho2 (by simp) (by simp)
    have bb2 := bb1.only ho2 (by simp)
    clear b0 b1 b2
    have b0 := bb2.cell_ 0 rfl
    have b1 := bb2.cell_ 1 rfl
    have b2 := bb2.cell_ 2 rfl
    have hoA := (ho0.trans ho1).trans ho2
    by_cases hi0 : i < 0
    · have d0 : decide (i < 0) = true := decide_eq_true hi0
      go_wp2_with (first | (go_at_call 13; refine Grew.use (robj_any w2 size pages batch HO.out) (fun w3 ho3 => ?_); rw [← HL.out]) | (go_at_call 11; refine Grew.use (alive_any w3) (fun w4 ho4 => ?_)))
      go_ret
      exact ⟨rfl, (hoA.trans ho3).trans ho4⟩
    · have d0 : decide (i < 0) = false := decide_eq_false hi0
      by_cases hin : (s.st.length : Int) ≤ i
      · have d1 : decide ((s.st.length : Int) ≤ i) = true := decide_eq_true hin
        go_wp2_with (first | (go_at_call 13; refine Grew.use (robj_any w2 size pages batch HO.out) (fun w3 ho3 => ?_); rw [← HL.out]) | (go_at_call 11; refine Grew.use (alive_any w3) (fun w4 ho4 => ?_)))
        go_ret
        exact ⟨rfl, (hoA.trans ho3).trans ho4⟩
      · have d1 : decide ((s.st.length : Int) ≤ i) = false := decide_eq_false hin
        have o1 := (HG.out.off (i := i) (by omega) (by omega))
        rw [HS.out.2.1, HS.out.2.2.1] at o1
        obtain ⟨o1, o2⟩ := o1
        have o3 := (HG.out.off (i := i + 1) (by omega) (by omega)).2
        rw [HS.out.2.1, HS.out.2.2.1, Int.add_mul] at o3
        have d2 : decide (start * 256 + i * size < start * 256) = false := decide_eq_false (by omega)
        have d3 : decide ((start + pages) * 256 < start * 256 + i * size + size) = false := decide_eq_false (by omega)
        go_wp2_with fail
        go_loop [12] (fun t => ∃ r : Int, t = .int .i64 r ∧ 1 ≤ r ∧ r ≤ 512 ∧ Hid (∃ j : Nat, j ≤ 9 ∧ r = 2 ^ j)) (fun t => (1024 - intOf t).toNat)
        case atStart => exact ⟨1, rfl, by omega, by omega, ⟨0, by omega, rfl⟩⟩
        case round =>
          obtain ⟨r, rfl, r1, r2, HR⟩ := hrel
          by_cases hr : r ≤ 256
          · have e1 : decide (r ≤ 256) = true := decide_eq_true hr
            have HN := Lib.hid (pow_two_next HR.out hr)
            have z0 : (r == 0) = false := beq_eq_false_iff_ne.2 (by omega)
            by_cases hp : size % r = 0
            · have e2 : (size % r == 0) = true := beq_iff_eq.2 hp
              have e3 : ((start * 256 + i * size) % r != 0) = false := bne_eq_false_iff_eq.2 (mod_addr (pow_two_dvd HR.out hr) hp)
              clear hp
              go_wp2
              go_round
              case rel => exact ⟨2 * r, rfl, by omega, by omega, HN⟩
              case measure => simp [intOf]; omega
            · have e2 : (size % r == 0) = false := beq_eq_false_iff_ne.2 hp
              clear hp
              go_wp2
              go_round
              case rel => exact ⟨2 * r, rfl, by omega, by omega, HN⟩
              case measure => simp [intOf]; omega
          · have e1 : decide (r ≤ 256) = false := decide_eq_false hr
            by_cases hmo : more < 0 ∨ size ≤ more
            · have C := Index_at hsp2 ((start + pages) * 256 - 1) (by omega) (by omega)
              have hy := idx_last HG.out
              rw [HS.out.1, HS.out.2.1, HS.out.2.2.1] at hy
              obtain ⟨x, y, hxy⟩ : ∃ x y, s.idx ((start + pages) * 256 - 1) = (x, y) := ⟨_, _, rfl⟩
              rw [hxy] at C hy
              dsimp only at C hy
              clear hxy
              by_cases hT : pages * 256 - (s.st.length : Int) * size > 0
              all_goals
                first | (rw [if_pos hT] at hy; have t1 : decide ((s.st.length : Int) * size < pages * 256) = true := decide_eq_true (by omega)) | (rw [if_neg hT] at hy; have t1 : decide ((s.st.length : Int) * size < pages * 256) = false := decide_eq_false (by omega))
                subst hy
                rcases hmo with h0 | h0
                all_goals
                  first | (have g0 : decide (more < 0) = true := decide_eq_true h0) | (have g0 : decide (size ≤ more) = true := decide_eq_true h0)
                  go_wp2_with (first | (go_at_call 14; refine Quiet.use C (fun n => ?_); have b0n := (bb2.drewN n).cell_ 0 rfl; have b1n := (bb2.drewN n).cell_ 1 rfl; have b2n := (bb2.drewN n).cell_ 2 rfl) | (go_at_call 15; refine Grew.use (rtail_any _ size pages batch HO.out) (fun w3 ho3 => ?_); rw [← HL.out]) | (go_at_call 11; refine Grew.use (alive_any w3) (fun w4 ho4 => ?_)))
                  all_goals
                    go_ret
                    exact ⟨rfl, ((hoA.drewN _).trans ho3).trans ho4⟩
            · have hmo1 : 0 ≤ more := by omega
              have hmo2 : more < size := by omega
              have g0 : decide (more < 0) = false := decide_eq_false (by omega)
              have g1 : decide (size ≤ more) = false := decide_eq_false (by omega)
              have C := Index_at hsp2 (start * 256 + i * size + more) (by omega) (by omega)
              have hx := idx_of_obj HG.out (i := i) (m := more) (by omega) (by omega) hmo1 (by rw [HS.out.2.1]; exact hmo2)
              rw [HS.out.1, HS.out.2.1] at hx
              rw [hx] at C
              have C2 := fun n => IsTaken_at (hsp2.drewN n) (start * 256 + i * size) (by omega) (by omega)
              have hx2 := idx_of_obj HG.out (i := i) (m := 0) (by omega) (by omega) (by omega) (by rw [HS.out.2.1]; omega)
              rw [HS.out.1, HS.out.2.1, Int.add_zero] at hx2
              have hx3 : s.tkn (start * 256 + i * size) = (false, 0) := by
                have h1 : s.obj (start * 256 + i * size) = (i, 0) := by
                  rw [Sp.obj_yes (by rw [hx2]) (by rw [hx2, HS.out.1, HS.out.2.1]), hx2]
                unfold Sp.tkn
                rw [h1, if_pos rfl, HS.out.2.2.2.2]
                rfl
              rw [hx3] at C2
              clear hx hx2 hx3
              have CH := Lib.hid C
              have CH2 := Lib.hid C2
              clear C C2
              go_wp2_with (first | (go_at_call 14; refine Quiet.use CH.out (fun n => ?_)) | (go_at_call 16; refine Quiet.use (CH2.out _) (fun m => ?_)) | (go_at_call 11; refine Grew.use (alive_any _) (fun w4 ho4 => ?_)))
              go_ret
              exact ⟨rfl, (hoA.drewN _).trans ho4⟩
  · have HF := Lib.hid hf
    replace M := M.mono (fun e w' h => (⟨h.2.1 hf, h.2.2⟩ : (_ ∧ _)))
    clear hf
    have b0 := b.cell_ 0 rfl
    have b1 := b.cell_ 1 rfl
    have b2 := b.cell_ 2 rfl
    go_enter Try.func3, Try.ntmps3
    go_wp2_with (first | (go_at_call 10; refine M.mono ?_; rintro e w2 ⟨rfl, ho2⟩) | (go_at_call 11; refine Grew.use (alive_any w2) (fun w4 ho4 => ?_)))
    go_ret
    exact ⟨rfl, (ho0.trans ho2).trans ho4⟩
end Go.Proofs.Ytnflfolonfmchaa

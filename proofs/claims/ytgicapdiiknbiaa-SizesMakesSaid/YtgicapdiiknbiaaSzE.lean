/- Contracts of Class (through slices.IndexFunc and its closure), Slack. -/
import Derived.Test.YtgicapdiiknbiaaSzD
set_option linter.unusedVariables false
set_option linter.unusedSimpArgs false
namespace Go.Proofs.Ytgicapdiiknbiaa
open Go.RowKit

set_option maxHeartbeats 800000 in
theorem pred_any (w : World) (x : Cl) (p q : Nat) (size align : Int) (hp : w.cell? ⟨p, 0, none⟩ = some (.int .i64 size)) (hq : w.cell? ⟨q, 0, none⟩ = some (.int .i64 align)) (h1 : 1 ≤ align) (h2 : 8 ≤ x.s) (h3 : x.s ≤ 512) (h4 : align ≤ 256) :
    Grew Try.prog 39 #[x.val, .pointer (some ⟨p, 0, none⟩), .pointer (some ⟨q, 0, none⟩)] w (.bool (fitsC size align x)) := by
  obtain ⟨xs, xp, xb⟩ := x
  unfold Cl.val fitsC
  dsimp only at *
  have ho := (Only.refl [] w).alloc (.cells #[.int .i64 xs, .int .i64 xp, .int .i64 xb] 24)
  have b := Blk.new w 24 #[.int .i64 xs, .int .i64 xp, .int .i64 xb]
  have hp1 := (ho.cell (World.block_lt_of_cell? w _ hp) (by simp)).trans hp
  have hq1 := (ho.cell (World.block_lt_of_cell? w _ hq) (by simp)).trans hq
  have hs0 : (align == 0) = false := beq_eq_false_iff_ne.2 (by omega)
  clear hp hq
  have b0 := b.cell_ 0 rfl
  have b1 := b.cell_ 1 rfl
  have b2 := b.cell_ 2 rfl
  by_cases hd : size ≤ xs
  · have d1 : decide (size ≤ xs) = true := decide_eq_true hd
    go_enter Try.func39, Try.ntmps39
    go_wp2
    go_ret
    refine ⟨ret_bool ?_, ho⟩
    by_cases e : xs % align = 0 <;> simp [e, hd]
  · have d1 : decide (size ≤ xs) = false := decide_eq_false hd
    go_enter Try.func39, Try.ntmps39
    go_wp2
    go_ret
    exact ⟨ret_bool (by simp [d1]), ho⟩

/-- Where the first class lies that fits; -1: there is none. -/
def idxOf (l : List Cl) (size align : Int) : Int := if l.findIdx (fitsC size align) < l.length then (l.findIdx (fitsC size align) : Nat) else -1

set_option maxHeartbeats 1600000 in
theorem IndexFunc_any (w : World) (A : Option Addr) (n c : Nat) (l : List Cl) (hr : ReadsC w A n l) (hn : n ≤ 9223372036854775807) (hl : ∀ j, j < n → 8 ≤ (cAt l j).s ∧ (cAt l j).s ≤ 512)
    (p q : Nat) (size align : Int) (hp : w.cell? ⟨p, 0, none⟩ = some (.int .i64 size)) (hq : w.cell? ⟨q, 0, none⟩ = some (.int .i64 align)) (h1 : 1 ≤ align) (h4 : align ≤ 256) :
    Grew Try.prog 38 #[.slice A n c, .func (.func 39) #[] #[.pointer (some ⟨p, 0, none⟩), .pointer (some ⟨q, 0, none⟩)]] w (.int .i64 (idxOf l size align)) := by
  have HL := Lib.hid hr.1
  have HR := Lib.hid hr
  have HS := Lib.hid hl
  clear hr hl
  go_enter Try.func38, Try.ntmps38
  go_wp2_with fail
  go_loopw [8] (fun t wr => ∃ k : Nat, k ≤ n ∧ t = .int .i64 k ∧ Only [] w wr ∧ Hid (k ≤ l.findIdx (fitsC size align))) (fun t _ => n - (intOf t).toNat)
  case atStart => exact ⟨0, Nat.zero_le _, rfl, Only.refl _ _, Nat.zero_le _⟩
  case round =>
    obtain ⟨k, hk, rfl, ho, HK⟩ := hrel
    by_cases hlt : k < n
    · obtain ⟨ad, rfl, c1, c2, c3⟩ := (HR.out.still ho).at_ hlt
      obtain ⟨s1, s2⟩ := HS.out k hlt
      have C := Lib.hid (pred_any wr (cAt l k) p q size align ((ho.cell (World.block_lt_of_cell? w _ hp) (by simp)).trans hp) ((ho.cell (World.block_lt_of_cell? w _ hq) (by simp)).trans hq) h1 s1 s2 h4)
      have HH := Lib.hid (findIdx_here (p := fitsC size align) (by rw [HL.out]; exact hlt) HK.out)
      have HN := Lib.hid (findIdx_next (p := fitsC size align) (by rw [HL.out]; exact hlt) HK.out)
      generalize cAt l k = x at *
      obtain ⟨xs, xp, xb⟩ := x
      unfold Cl.val at C
      dsimp only at *
      clear hp hq
      cases hb : fitsC size align ⟨xs, xp, xb⟩
      · rw [hb] at C
        have HN2 := Lib.hid (HN.out hb)
        clear HH HN hb
        go_wp2_with (first | (go_at_call 39; refine Grew.use C.out (fun w2 ho2 => ?_)))
        go_roundw
        case rel => exact ⟨k + 1, by omega, by go_num, ho.trans ho2, HN2⟩
        case measure => simp [intOf]; omega
      · rw [hb] at C
        have HE := Lib.hid (HH.out hb)
        clear HH HN hb
        go_wp2_with (first | (go_at_call 39; refine Grew.use C.out (fun w2 ho2 => ?_)))
        go_ret
        refine ⟨?_, ho.trans ho2⟩
        unfold idxOf
        rw [HE.out, HL.out, if_pos hlt]
        rfl
    · have e : k = n := by omega
      have HE := Lib.hid (findIdx_end (p := fitsC size align) (by rw [HL.out]; exact e) HK.out)
      go_wp2_with fail
      go_ret
      refine ⟨?_, ho⟩
      unfold idxOf
      rw [if_neg HE.out]
      rfl

theorem isTable.at_ {l : List Cl} (h : isTable l) : ∀ j, j < l.length → 8 ≤ (cAt l j).s ∧ (cAt l j).s ≤ 512 := fun j hj => ⟨(h.2.2 j hj).1.1, (h.2.2 j hj).1.2.1⟩

set_option maxHeartbeats 1600000 in
theorem Class_any (w : World) (A : Option Addr) (n c : Nat) (l : List Cl) (hr : ReadsC w A n l) (hn : n ≤ 9223372036854775807) (size align : Int) :
    Grew Try.prog 25 #[.slice A n c, .int .i64 size, .int .i64 align] w (.tuple #[.int .i64 (clsOf l size align).1, .int .i64 (clsOf l size align).2]) := by
  have b1 := (Blk.new w 3 #[.int .i64 size]).alloc (.cells #[.int .i64 align] 3)
  have b2 := Blk.new (w.alloc (.cells #[.int .i64 size] 3)) 3 #[.int .i64 align]
  rw [World.size_alloc] at b2
  have ho := ((Only.refl [] w).alloc (.cells #[.int .i64 size] 3)).alloc (.cells #[.int .i64 align] 3)
  have hr1 := hr.still ho
  have HL := Lib.hid hr.1
  clear hr
  by_cases ht : isTable l
  · have HT := Lib.hid ht
    have CV := Lib.hid (fun W (hW : ReadsC W A n l) => (by have := Valid_any W A n c l hW hn; rwa [decide_eq_true HT.out] at this : Grew Try.prog 18 #[.slice A n c] W (.bool true)))
    clear ht
    by_cases h1 : size < 1
    · have d1 : decide (size < 1) = true := decide_eq_true h1
      have HE : Hid (clsOf l size align = (0, 1)) := by show _ = _; unfold clsOf; rw [if_neg (by simpa using HT.out), if_pos (by omega)]
      go_enter Try.func25, Try.ntmps25
      go_wp2_with fail
      generalize (w.alloc (.cells #[.int .i64 size] 3)).alloc (.cells #[.int .i64 align] 3) = w1 at *
      refine Grew.use (CV.out w1 hr1) (fun w2 ho2 => ?_)
      have g1 := (b1.only ho2 (by simp)).cell_ 0 rfl
      have g2 := (b2.only ho2 (by simp)).cell_ 0 rfl
      have f1 := cell_after g1
      have f2 := cell_after g2
      go_wp2_with fail
      refine wp_region_grew (by kernel_rfl) (by kernel_rfl) ?_
      repeat (go_big_quiet_step (first | (go_at_call 37; exact Grew.g (Still.grew (power_any _ align (by omega) (by omega))))))
      refine wpQuiet_nil ?_
      rintro w3 ⟨⟨_, ho3⟩, rfl⟩
      go_wp2
      go_ret2
      exact ⟨by rw [HE.out]; rfl, (ho.trans ho2).trans ho3⟩
    have d1 : decide (size < 1) = false := decide_eq_false h1
    by_cases h2 : align < 1
    · have d2 : decide (align < 1) = true := decide_eq_true h2
      have HE : Hid (clsOf l size align = (0, 1)) := by show _ = _; unfold clsOf; rw [if_neg (by simpa using HT.out), if_pos (by unfold isPow; omega)]
      go_enter Try.func25, Try.ntmps25
      go_wp2_with fail
      generalize (w.alloc (.cells #[.int .i64 size] 3)).alloc (.cells #[.int .i64 align] 3) = w1 at *
      refine Grew.use (CV.out w1 hr1) (fun w2 ho2 => ?_)
      have g1 := (b1.only ho2 (by simp)).cell_ 0 rfl
      have g2 := (b2.only ho2 (by simp)).cell_ 0 rfl
      have f1 := cell_after g1
      have f2 := cell_after g2
      go_wp2_with fail
      refine wp_region_grew (by kernel_rfl) (by kernel_rfl) ?_
      repeat (go_big_quiet_step (first | (go_at_call 37; exact Grew.g (Still.grew (power_any _ align (by omega) (by omega))))))
      refine wpQuiet_nil ?_
      rintro w3 ⟨⟨_, ho3⟩, rfl⟩
      go_wp2
      go_ret2
      exact ⟨by rw [HE.out]; rfl, (ho.trans ho2).trans ho3⟩
    have d2 : decide (align < 1) = false := decide_eq_false h2
    by_cases h3 : 256 < align
    · have d3 : decide (256 < align) = true := decide_eq_true h3
      have HE : Hid (clsOf l size align = (0, 1)) := by show _ = _; unfold clsOf; rw [if_neg (by simpa using HT.out), if_pos (by unfold isPow; omega)]
      go_enter Try.func25, Try.ntmps25
      go_wp2_with fail
      generalize (w.alloc (.cells #[.int .i64 size] 3)).alloc (.cells #[.int .i64 align] 3) = w1 at *
      refine Grew.use (CV.out w1 hr1) (fun w2 ho2 => ?_)
      have g1 := (b1.only ho2 (by simp)).cell_ 0 rfl
      have g2 := (b2.only ho2 (by simp)).cell_ 0 rfl
      have f1 := cell_after g1
      have f2 := cell_after g2
      go_wp2_with fail
      refine wp_region_grew (by kernel_rfl) (by kernel_rfl) ?_
      repeat (go_big_quiet_step (first | (go_at_call 37; exact Grew.g (Still.grew (power_any _ align (by omega) (by omega))))))
      refine wpQuiet_nil ?_
      rintro w3 ⟨⟨_, ho3⟩, rfl⟩
      go_wp2
      go_ret2
      exact ⟨by rw [HE.out]; rfl, (ho.trans ho2).trans ho3⟩
    have d3 : decide (256 < align) = false := decide_eq_false h3
    by_cases h4 : pw align = align
    · have hpw := isPow_iff.2 ⟨by omega, by omega, h4⟩
      have d4 : (pw align == align) = true := beq_iff_eq.2 h4
      have HE : Hid (clsOf l size align = if l.findIdx (fitsC size align) < l.length then (((l.findIdx (fitsC size align) : Nat) : Int), (0 : Int)) else (0, 4)) := by show _ = _; unfold clsOf; rw [if_neg (by simpa using HT.out), if_neg (by simp only [Decidable.not_not]; exact ⟨by omega, hpw⟩)]
      go_enter Try.func25, Try.ntmps25
      go_wp2_with fail
      generalize (w.alloc (.cells #[.int .i64 size] 3)).alloc (.cells #[.int .i64 align] 3) = w1 at *
      refine Grew.use (CV.out w1 hr1) (fun w2 ho2 => ?_)
      have g1 := (b1.only ho2 (by simp)).cell_ 0 rfl
      have g2 := (b2.only ho2 (by simp)).cell_ 0 rfl
      have f1 := cell_after g1
      have f2 := cell_after g2
      go_wp2_with fail
      refine wp_region_grew (by kernel_rfl) (by kernel_rfl) ?_
      repeat (go_big_quiet_step (first | (go_at_call 37; exact Grew.g (Still.grew (power_any _ align (by omega) (by omega))))))
      refine wpQuiet_nil ?_
      rintro w3 ⟨⟨_, ho3⟩, rfl⟩
      have hr3 := (hr1.still ho2).still ho3
      have g13 := ((b1.only ho2 (by simp)).only ho3 (by simp)).cell_ 0 rfl
      have g23 := ((b2.only ho2 (by simp)).only ho3 (by simp)).cell_ 0 rfl
      have I := Lib.hid (IndexFunc_any w3 A n c l hr3 hn (fun j hj => HT.out.at_ j (by rw [HL.out]; exact hj)) w.heap.size (w.heap.size + 1) size align g13 g23 (by omega) (by omega))
      clear f1 f2
      by_cases hf : l.findIdx (fitsC size align) < l.length
      · have e : idxOf l size align = (l.findIdx (fitsC size align) : Nat) := by unfold idxOf; rw [if_pos hf]
        rw [e] at I
        rw [if_pos hf] at HE
        clear e hf
        generalize l.findIdx (fitsC size align) = m at *
        go_wp2_with (first | (go_at_call 38; refine Grew.use I.out (fun w4 ho4 => ?_)))
        go_ret2
        exact ⟨by rw [HE.out]; rfl, ((ho.trans ho2).trans ho3).trans ho4⟩
      · have e : idxOf l size align = -1 := by unfold idxOf; rw [if_neg hf]
        rw [e] at I
        rw [if_neg hf] at HE
        clear e hf
        go_wp2_with (first | (go_at_call 38; refine Grew.use I.out (fun w4 ho4 => ?_)))
        go_ret2
        exact ⟨by rw [HE.out]; rfl, ((ho.trans ho2).trans ho3).trans ho4⟩
    · have d4 : (pw align == align) = false := beq_eq_false_iff_ne.2 h4
      have HE : Hid (clsOf l size align = (0, 1)) := by show _ = _; unfold clsOf; rw [if_neg (by simpa using HT.out), if_pos (by intro h; exact h4 (isPow_iff.1 h.2).2.2)]
      go_enter Try.func25, Try.ntmps25
      go_wp2_with fail
      generalize (w.alloc (.cells #[.int .i64 size] 3)).alloc (.cells #[.int .i64 align] 3) = w1 at *
      refine Grew.use (CV.out w1 hr1) (fun w2 ho2 => ?_)
      have g1 := (b1.only ho2 (by simp)).cell_ 0 rfl
      have g2 := (b2.only ho2 (by simp)).cell_ 0 rfl
      have f1 := cell_after g1
      have f2 := cell_after g2
      go_wp2_with fail
      refine wp_region_grew (by kernel_rfl) (by kernel_rfl) ?_
      repeat (go_big_quiet_step (first | (go_at_call 37; exact Grew.g (Still.grew (power_any _ align (by omega) (by omega))))))
      refine wpQuiet_nil ?_
      rintro w3 ⟨⟨_, ho3⟩, rfl⟩
      go_wp2
      go_ret2
      exact ⟨by rw [HE.out]; rfl, (ho.trans ho2).trans ho3⟩
  · have HE : Hid (clsOf l size align = (0, 2)) := by show _ = _; unfold clsOf; rw [if_pos ht]
    have CV := Lib.hid (fun W (hW : ReadsC W A n l) => (by have := Valid_any W A n c l hW hn; rwa [decide_eq_false ht] at this : Grew Try.prog 18 #[.slice A n c] W (.bool false)))
    clear ht
    go_enter Try.func25, Try.ntmps25
    go_wp2_with fail
    generalize (w.alloc (.cells #[.int .i64 size] 3)).alloc (.cells #[.int .i64 align] 3) = w1 at *
    refine Grew.use (CV.out w1 hr1) (fun w2 ho2 => ?_)
    go_wp2_with fail
    go_ret2
    exact ⟨by rw [HE.out]; rfl, ho.trans ho2⟩
end Go.Proofs.Ytgicapdiiknbiaa

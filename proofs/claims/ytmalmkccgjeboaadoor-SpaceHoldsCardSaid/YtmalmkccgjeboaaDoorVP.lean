/- The walk of SpaceHolds. -/
import Derived.Test.YtmalmkccgjeboaaDoorVO
set_option linter.unusedVariables false
set_option linter.unusedSimpArgs false
namespace Go.Proofs.YtmalmkccgjeboaaDoor
open Go.RowKit

theorem SpM.actE_bounds {m : SpM} (hg : m.good) {k a b c : Int} (h : m.actE ⟨k, a, b, c⟩ = 0) : ((k = 1 ∨ k = 2) → 0 ≤ a ∧ a ≤ 1024 ∧ 1 ≤ b ∧ b ≤ 1024) ∧ (k = 4 → 0 ≤ a ∧ a ≤ 300000) ∧ (k = 6 → 0 ≤ b ∧ b ≤ 32768) ∧ (k = 7 → 0 ≤ c ∧ c ≤ 32768) := by
  have hn := hg.n2
  have hl : ∀ {x y : Int}, m.leaveE x y = 0 → 0 ≤ x ∧ x ≤ 1024 ∧ 1 ≤ y ∧ y ≤ 1024 := by
    intro x y he
    unfold SpM.leaveE at he
    split at he
    · cases he
    · rename_i hr
      simp only [Decidable.not_not] at hr
      obtain ⟨r1, r2, r3, r4⟩ := hr
      omega
  unfold SpM.actE at h
  dsimp only at h
  refine ⟨?_, ?_, ?_, ?_⟩
  · rintro (rfl | rfl)
    · exact hl h
    · exact hl h
  · rintro rfl
    obtain ⟨q1, q2, q3, _⟩ := SpM.acc_ok (by omega) (show m.acc a 1 = 0 from h)
    omega
  · rintro rfl
    obtain ⟨q1, q2, _⟩ := SpM.cnt_ok (show m.cnt a b = 0 from h)
    omega
  · rintro rfl
    have he : m.copyE a b c = 0 := h
    unfold SpM.copyE at he
    have h1 : m.cnt a c = 0 := by
      split at he
      · assumption
      · exact he
    obtain ⟨q1, q2, _⟩ := SpM.cnt_ok h1
    omega
theorem Keeps.write {m : SpM} (hg : m.good) {addr v : Int} (h : m.acc addr 1 = 0) : Keeps (m.writeM addr v) addr v := by
  obtain ⟨q1, q2, q3, _⟩ := SpM.acc_ok (by omega) h
  have e : m.writeM addr v = m.putW (addr / 8) v := if_pos h
  rw [e]
  refine ⟨q1, q2, by show addr / 8 < 32 * (m.n : Int); omega, ?_, if_pos rfl⟩
  rw [SpM.putW_st, if_pos (by omega)]
  decide

set_option maxRecDepth 100000 in
set_option maxHeartbeats 16000000 in
theorem SpaceHolds_walk (w : World) (hE : Env w) (pages : Int) (hp : 0 ≤ pages ∧ pages ≤ 255) (A : Option Addr) (n c : Nat) (l : List Ac) (hr : ReadsA w A n l) (hn : n ≤ 9223372036854775807) (addr : Int) (ha : I64 addr) (v : Int) (hv : I64 v)
    (B : Option Addr) (n' c' : Nat) (l' : List Ac) (hr' : ReadsA w B n' l') (hn' : n' ≤ 9223372036854775807) :
    Grew Tryd.prog 3 #[.int .u8 pages, .slice A n c, .int .i64 addr, .int .i64 v, .slice B n' c'] w (.bool true) := by
  have HR := Lib.hid hr
  have HR' := Lib.hid hr'
  have HE := Lib.hid hE
  have CG := Lib.hid (fun W => great_any W A n c hn)
  have CG' := Lib.hid (fun W => great_any W B n' c' hn')
  have CM := Lib.hid (lmade_any hE pages hp none 0 0 [] (ReadsA.none w) (by omega))
  clear hr hr' hE
  have hnn : n ≤ 9223372036854775807 := hn
  go_enter Tryd.func3, Tryd.ntmps3
  go_wp2_with fail
  refine CM.out.mono ?_
  rintro e w1 ⟨ho1, p, l1, rfl, hs1, hl1⟩
  obtain ⟨m0, hm0⟩ : ∃ m0, m0 = SpM.fresh (pages % 64 + 1).toNat := ⟨_, rfl⟩
  rw [← hm0] at hs1
  have HS1 := Lib.hid hs1
  have HL1 := Lib.hid hl1
  clear hm0 hs1 hl1 CM
  by_cases hg : 40 < n
  · rw [decide_eq_true hg] at CG
    go_wp2_with (first | (go_at_call 13; refine Still.use (CG.out _) ?_) | (go_at_call 14; refine Grew.use (alive_any _ (HE.out.only ho1 (by simp))) (fun w2 ho2 => ?_)))
    go_ret
    exact ⟨rfl, ho1.trans ho2⟩
  rw [decide_eq_false hg] at CG
  by_cases hg' : 40 < n'
  · rw [decide_eq_true hg'] at CG'
    go_wp2_with (first | (go_at_call 13; refine Still.use (CG.out _) ?_) | (go_at_call 13; refine Still.use (CG'.out _) ?_) | (go_at_call 14; refine Grew.use (alive_any _ (HE.out.only ho1 (by simp))) (fun w2 ho2 => ?_)))
    go_ret
    exact ⟨rfl, ho1.trans ho2⟩
  rw [decide_eq_false hg'] at CG'
  go_wp2_with (first | (go_at_call 13; refine Still.use (CG.out _) ?_) | (go_at_call 13; refine Still.use (CG'.out _) ?_))
  go_loopw [12] (fun t wr => ∃ k : Nat, k ≤ n ∧ t = .int .i64 k ∧ Only [] w wr ∧ ∃ L, SpaceAt wr p L (m0.acts l k) ∧ ∀ b ∈ L, w.heap.size ≤ b) (fun t _ => n - (intOf t).toNat)
  case atStart => exact ⟨0, Nat.zero_le _, rfl, ho1, l1, HS1.out, HL1.out⟩
  case round =>
    obtain ⟨k, hk, rfl, ho, L, hs, hL⟩ := hrel
    by_cases hlt : k < n
    · have d1 : decide ((k : Int) < n) = true := decide_eq_true (by omega)
      obtain ⟨hok, ad, rfl, c0, c1, c2, c3⟩ := (HR.out.still ho).at_ hlt
      have CD := Lib.hid (do_any (HE.out.only ho (by simp)) hs (vAt l k) hok)
      have HACT : Hid (m0.acts l (k + 1) = (m0.acts l k).act (vAt l k)) := rfl
      have HHL := Lib.hid hL
      generalize (m0.acts l k).actE (vAt l k) = ee at *
      generalize (m0.acts l k).act (vAt l k) = mm at *
      generalize vAt l k = x at *
      clear hs hok hL
      obtain ⟨xk, xa, xb, xc⟩ := x
      dsimp only at *
      go_wp2_with fail
      refine CD.out.mono ?_
      rintro e w2 ⟨rfl, hT⟩
      obtain ⟨ho2, L2, hs2, hL2⟩ := Turn.new ho HHL.out hT
      go_wp2_with fail
      go_roundw
      case rel => exact ⟨k + 1, by omega, by go_num, ho2, L2, by rw [HACT.out]; exact hs2, hL2⟩
      case measure => simp [intOf]; omega
    · have e : k = n := by omega
      have d1 : decide ((k : Int) < n) = false := decide_eq_false (by omega)
      generalize m0.acts l k = m1 at *
      have CW := Lib.hid (Write_any (HE.out.only ho (by simp)) hs addr v ha hv)
      by_cases hw0 : m1.acc addr 1 = 0
      · have HKP := Lib.hid (Keeps.write (v := v) hs.good hw0)
        have hb := SpM.acc_ok (by omega) hw0
        have hgn := hs.good.n2
        obtain ⟨b1, b2, b3, _⟩ := hb
        have t1 : addr.tdiv 256 = addr / 256 := Int.tdiv_eq_ediv_of_nonneg b1
        have q1 : 0 ≤ addr / 256 := by omega
        have q2 : addr / 256 ≤ 1024 := by omega
        have q3 : addr ≤ 300000 := by omega
        rw [hw0] at CW
        have HHL := Lib.hid hL
        clear hw0 hs hL b3 hgn
        generalize m1.writeM addr v = m2 at *
        go_wp2_with fail
        refine CW.out.mono ?_
        rintro e w2 ⟨rfl, hT⟩
        obtain ⟨ho2, L2, hs2, hL2⟩ := Turn.new ho HHL.out hT
        have HS2 := Lib.hid hs2
        have HL2 := Lib.hid hL2
        clear hs2 hL2 hT
        go_wp2_with fail
        go_loopw [14] (fun t wr => ∃ k : Nat, k ≤ n' ∧ t = .int .i64 k ∧ Only [] w wr ∧ ∃ mk L, Keeps mk addr v ∧ SpaceAt wr p L mk ∧ ∀ b ∈ L, w.heap.size ≤ b) (fun t _ => n' - (intOf t).toNat)
        case atStart => exact ⟨0, Nat.zero_le _, rfl, ho2, m2, L2, HKP.out, HS2.out, HL2.out⟩
        case round =>
          obtain ⟨i, hi, rfl, hoi, mk, L, hK, hs, hL⟩ := hrel
          by_cases hlt2 : i < n'
          · have d2 : decide ((i : Int) < n') = true := decide_eq_true (by omega)
            obtain ⟨hok, ad, rfl, c0, c1, c2, c3⟩ := (HR'.out.still hoi).at_ hlt2
            generalize vAt l' i = x at *
            obtain ⟨xk, xa, xb, xc⟩ := x
            dsimp only at c0 c1 c2 c3
            have hoX := (Only.refl [] wr).alloc (.cells #[.int .i64 xk, .int .i64 xa, .int .i64 xb, .int .i64 xc] 30)
            have bX := Blk.new wr 30 #[.int .i64 xk, .int .i64 xa, .int .i64 xb, .int .i64 xc]
            have CD := Lib.hid (do_any ((HE.out.only hoi (by simp)).only hoX (by simp)) (hs.still hoX) ⟨xk, xa, xb, xc⟩ hok)
            have HB := SpM.actE_bounds hs.good (k := xk) (a := xa) (b := xb) (c := xc)
            have HN := Lib.hid (fun hc => hK.act ⟨xk, xa, xb, xc⟩ hc)
            have HCV : Hid (Covers mk ⟨xk, xa, xb, xc⟩ addr ↔ mk.actE ⟨xk, xa, xb, xc⟩ = 0 ∧ (((xk = 1 ∨ xk = 2) ∧ xa ≤ addr / 256 ∧ addr / 256 < xa + xb) ∨ ((xk = 4 ∨ xk = 6 ∨ xk = 7) ∧ xa ≤ addr ∧ addr < xa + (if xk = 4 then 1 else if xk = 7 then xc else xb) * 8))) := Iff.rfl
            have HHL := Lib.hid hL
            have HLT := Lib.hid hs.lt
            obtain ⟨ok1, ok2, ok3, ok4⟩ := hok
            unfold I64 at ok1 ok2 ok3 ok4
            dsimp only at ok1 ok2 ok3 ok4
            go_wp2_with fail
            refine CD.out.mono ?_
            rintro e w3 ⟨rfl, hT⟩
            have bX3 := bX.only hT.1 (fun hb => by have := HLT.out _ hb; omega)
            obtain ⟨ho3, L3, hs3, hL3⟩ := Turn.new (hoi.trans hoX) HHL.out hT
            clear hT hs hL c0 c1 c2 c3 CD bX
            have y0 := bX3.cell_ 0 rfl
            have y1 := bX3.cell_ 1 rfl
            have y2 := bX3.cell_ 2 rfl
            have y3 := bX3.cell_ 3 rfl
            generalize hee : mk.actE ⟨xk, xa, xb, xc⟩ = ee at *
            have HE3 := Lib.hid (HE.out.only ho3 (by simp))
            have HS3 := Lib.hid hs3
            generalize mk.act ⟨xk, xa, xb, xc⟩ = mn at *
            clear hs3 hK
            have z0 := cell_after y0
            have z1 := cell_after y1
            have z2 := cell_after y2
            have z3 := cell_after y3
            by_cases h0 : ee = 0
            · have E0 : (ee == 0) = true := beq_iff_eq.2 h0
              subst h0
              have h0 : (0 : Int) = 0 := rfl
              by_cases hk : xk = 1
              ·
                subst hk
                obtain ⟨r1, r2, r3, r4⟩ := (HB h0).1 (by omega)
                by_cases g1 : xa ≤ addr / 256
                · have e1 : decide (xa ≤ addr / 256) = true := decide_eq_true g1
                  by_cases g2 : addr / 256 < xa + xb
                  · have e2 : decide (addr / 256 < xa + xb) = true := decide_eq_true g2
                    clear HN HCV HB z0 z1 z2 z3
                    go_wp2_with (first | (go_at_call 14; refine Grew.use (alive_any _ HE3.out) (fun w5 ho5 => ?_)))
                    go_ret
                    exact ⟨rfl, ho3.trans ho5⟩
                  · have e2 : decide (addr / 256 < xa + xb) = false := decide_eq_false g2
                    have HKN := Lib.hid (HN.out (fun hc => by have hh := HCV.out.1 hc; first | exact absurd hh.1 h0 | (simp at hh; omega)))
                    clear HN HCV HB
                    go_wp2_with fail
                    refine wp_region_grew (by kernel_rfl) (by kernel_rfl) ?_
                    repeat (go_big_quiet_step (fail))
                    refine wpQuiet_nil ?_
                    rintro w4 ⟨⟨_, ho4⟩, rfl⟩
                    have u0 := z0 ⟨w4, ho4⟩
                    have u1 := z1 ⟨w4, ho4⟩
                    have u2 := z2 ⟨w4, ho4⟩
                    have u3 := z3 ⟨w4, ho4⟩
                    clear z0 z1 z2 z3 y0 y1 y2 y3
                    have CR := Lib.hid (Read_any (HE3.out.only ho4 (by simp)) (HS3.out.still ho4) addr ha)
                    rw [HKN.out.acc, if_pos rfl, HKN.out.2.2.2.2] at CR
                    go_wp2_with (first | (go_at_call 17; refine Grew.use CR.out (fun w5 ho5 => ?_)))
                    go_roundw
                    case rel => exact ⟨i + 1, by omega, by go_num, (ho3.trans ho4).trans ho5, mn, L3, HKN.out, (HS3.out.still ho4).still ho5, hL3⟩
                    case measure => simp [intOf]; omega
                · have e1 : decide (xa ≤ addr / 256) = false := decide_eq_false g1
                  have HKN := Lib.hid (HN.out (fun hc => by have hh := HCV.out.1 hc; first | exact absurd hh.1 h0 | (simp at hh; omega)))
                  clear HN HCV HB
                  go_wp2_with fail
                  refine wp_region_grew (by kernel_rfl) (by kernel_rfl) ?_
                  repeat (go_big_quiet_step (fail))
                  refine wpQuiet_nil ?_
                  rintro w4 ⟨⟨_, ho4⟩, rfl⟩
                  have u0 := z0 ⟨w4, ho4⟩
                  have u1 := z1 ⟨w4, ho4⟩
                  have u2 := z2 ⟨w4, ho4⟩
                  have u3 := z3 ⟨w4, ho4⟩
                  clear z0 z1 z2 z3 y0 y1 y2 y3
                  have CR := Lib.hid (Read_any (HE3.out.only ho4 (by simp)) (HS3.out.still ho4) addr ha)
                  rw [HKN.out.acc, if_pos rfl, HKN.out.2.2.2.2] at CR
                  go_wp2_with (first | (go_at_call 17; refine Grew.use CR.out (fun w5 ho5 => ?_)))
                  go_roundw
                  case rel => exact ⟨i + 1, by omega, by go_num, (ho3.trans ho4).trans ho5, mn, L3, HKN.out, (HS3.out.still ho4).still ho5, hL3⟩
                  case measure => simp [intOf]; omega
              have k1 : (xk == 1) = false := beq_eq_false_iff_ne.2 hk
              by_cases hk : xk = 2
              ·
                subst hk
                obtain ⟨r1, r2, r3, r4⟩ := (HB h0).1 (by omega)
                by_cases g1 : xa ≤ addr / 256
                · have e1 : decide (xa ≤ addr / 256) = true := decide_eq_true g1
                  by_cases g2 : addr / 256 < xa + xb
                  · have e2 : decide (addr / 256 < xa + xb) = true := decide_eq_true g2
                    clear HN HCV HB z0 z1 z2 z3
                    go_wp2_with (first | (go_at_call 14; refine Grew.use (alive_any _ HE3.out) (fun w5 ho5 => ?_)))
                    go_ret
                    exact ⟨rfl, ho3.trans ho5⟩
                  · have e2 : decide (addr / 256 < xa + xb) = false := decide_eq_false g2
                    have HKN := Lib.hid (HN.out (fun hc => by have hh := HCV.out.1 hc; first | exact absurd hh.1 h0 | (simp at hh; omega)))
                    clear HN HCV HB
                    go_wp2_with fail
                    refine wp_region_grew (by kernel_rfl) (by kernel_rfl) ?_
                    repeat (go_big_quiet_step (fail))
                    refine wpQuiet_nil ?_
                    rintro w4 ⟨⟨_, ho4⟩, rfl⟩
                    have u0 := z0 ⟨w4, ho4⟩
                    have u1 := z1 ⟨w4, ho4⟩
                    have u2 := z2 ⟨w4, ho4⟩
                    have u3 := z3 ⟨w4, ho4⟩
                    clear z0 z1 z2 z3 y0 y1 y2 y3
                    have CR := Lib.hid (Read_any (HE3.out.only ho4 (by simp)) (HS3.out.still ho4) addr ha)
                    rw [HKN.out.acc, if_pos rfl, HKN.out.2.2.2.2] at CR
                    go_wp2_with (first | (go_at_call 17; refine Grew.use CR.out (fun w5 ho5 => ?_)))
                    go_roundw
                    case rel => exact ⟨i + 1, by omega, by go_num, (ho3.trans ho4).trans ho5, mn, L3, HKN.out, (HS3.out.still ho4).still ho5, hL3⟩
                    case measure => simp [intOf]; omega
                · have e1 : decide (xa ≤ addr / 256) = false := decide_eq_false g1
                  have HKN := Lib.hid (HN.out (fun hc => by have hh := HCV.out.1 hc; first | exact absurd hh.1 h0 | (simp at hh; omega)))
                  clear HN HCV HB
                  go_wp2_with fail
                  refine wp_region_grew (by kernel_rfl) (by kernel_rfl) ?_
                  repeat (go_big_quiet_step (fail))
                  refine wpQuiet_nil ?_
                  rintro w4 ⟨⟨_, ho4⟩, rfl⟩
                  have u0 := z0 ⟨w4, ho4⟩
                  have u1 := z1 ⟨w4, ho4⟩
                  have u2 := z2 ⟨w4, ho4⟩
                  have u3 := z3 ⟨w4, ho4⟩
                  clear z0 z1 z2 z3 y0 y1 y2 y3
                  have CR := Lib.hid (Read_any (HE3.out.only ho4 (by simp)) (HS3.out.still ho4) addr ha)
                  rw [HKN.out.acc, if_pos rfl, HKN.out.2.2.2.2] at CR
                  go_wp2_with (first | (go_at_call 17; refine Grew.use CR.out (fun w5 ho5 => ?_)))
                  go_roundw
                  case rel => exact ⟨i + 1, by omega, by go_num, (ho3.trans ho4).trans ho5, mn, L3, HKN.out, (HS3.out.still ho4).still ho5, hL3⟩
                  case measure => simp [intOf]; omega
              have k2 : (xk == 2) = false := beq_eq_false_iff_ne.2 hk
              by_cases hk : xk = 4
              ·
                subst hk
                obtain ⟨r1, r2⟩ := (HB h0).2.1 rfl
                by_cases g1 : xa ≤ addr
                · have e1 : decide (xa ≤ addr) = true := decide_eq_true g1
                  by_cases g2 : addr < xa + 8
                  · have e2 : decide (addr < xa + 8) = true := decide_eq_true g2
                    clear HN HCV HB
                    go_wp2_with fail
                    refine wp_region_grew (by kernel_rfl) (by kernel_rfl) ?_
                    repeat (go_big_quiet_step (fail))
                    refine wpQuiet_nil ?_
                    rintro w4 ⟨⟨_, ho4⟩, rfl⟩
                    have u0 := z0 ⟨w4, ho4⟩
                    have u1 := z1 ⟨w4, ho4⟩
                    have u2 := z2 ⟨w4, ho4⟩
                    have u3 := z3 ⟨w4, ho4⟩
                    clear z0 z1 z2 z3 y0 y1 y2 y3
                    go_wp2_with (first | (go_at_call 14; refine Grew.use (alive_any _ (HE3.out.only ho4 (by simp))) (fun w5 ho5 => ?_)))
                    go_ret
                    exact ⟨rfl, (ho3.trans ho4).trans ho5⟩
                  · have e2 : decide (addr < xa + 8) = false := decide_eq_false g2
                    have HKN := Lib.hid (HN.out (fun hc => by have hh := HCV.out.1 hc; first | exact absurd hh.1 h0 | (simp at hh; omega)))
                    clear HN HCV HB
                    go_wp2_with fail
                    refine wp_region_grew (by kernel_rfl) (by kernel_rfl) ?_
                    repeat (go_big_quiet_step (fail))
                    refine wpQuiet_nil ?_
                    rintro w4 ⟨⟨_, ho4⟩, rfl⟩
                    have u0 := z0 ⟨w4, ho4⟩
                    have u1 := z1 ⟨w4, ho4⟩
                    have u2 := z2 ⟨w4, ho4⟩
                    have u3 := z3 ⟨w4, ho4⟩
                    clear z0 z1 z2 z3 y0 y1 y2 y3
                    have CR := Lib.hid (Read_any (HE3.out.only ho4 (by simp)) (HS3.out.still ho4) addr ha)
                    rw [HKN.out.acc, if_pos rfl, HKN.out.2.2.2.2] at CR
                    go_wp2_with (first | (go_at_call 17; refine Grew.use CR.out (fun w5 ho5 => ?_)))
                    go_roundw
                    case rel => exact ⟨i + 1, by omega, by go_num, (ho3.trans ho4).trans ho5, mn, L3, HKN.out, (HS3.out.still ho4).still ho5, hL3⟩
                    case measure => simp [intOf]; omega
                · have e1 : decide (xa ≤ addr) = false := decide_eq_false g1
                  have HKN := Lib.hid (HN.out (fun hc => by have hh := HCV.out.1 hc; first | exact absurd hh.1 h0 | (simp at hh; omega)))
                  clear HN HCV HB
                  go_wp2_with fail
                  refine wp_region_grew (by kernel_rfl) (by kernel_rfl) ?_
                  repeat (go_big_quiet_step (fail))
                  refine wpQuiet_nil ?_
                  rintro w4 ⟨⟨_, ho4⟩, rfl⟩
                  have u0 := z0 ⟨w4, ho4⟩
                  have u1 := z1 ⟨w4, ho4⟩
                  have u2 := z2 ⟨w4, ho4⟩
                  have u3 := z3 ⟨w4, ho4⟩
                  clear z0 z1 z2 z3 y0 y1 y2 y3
                  have CR := Lib.hid (Read_any (HE3.out.only ho4 (by simp)) (HS3.out.still ho4) addr ha)
                  rw [HKN.out.acc, if_pos rfl, HKN.out.2.2.2.2] at CR
                  go_wp2_with (first | (go_at_call 17; refine Grew.use CR.out (fun w5 ho5 => ?_)))
                  go_roundw
                  case rel => exact ⟨i + 1, by omega, by go_num, (ho3.trans ho4).trans ho5, mn, L3, HKN.out, (HS3.out.still ho4).still ho5, hL3⟩
                  case measure => simp [intOf]; omega
              have k4 : (xk == 4) = false := beq_eq_false_iff_ne.2 hk
              by_cases hk : xk = 6
              ·
                subst hk
                obtain ⟨r1, r2⟩ := (HB h0).2.2.1 rfl
                by_cases g1 : xa ≤ addr
                · have e1 : decide (xa ≤ addr) = true := decide_eq_true g1
                  by_cases g2 : addr < xa + xb * 8
                  · have e2 : decide (addr < xa + xb * 8) = true := decide_eq_true g2
                    clear HN HCV HB
                    go_wp2_with fail
                    refine wp_region_grew (by kernel_rfl) (by kernel_rfl) ?_
                    repeat (go_big_quiet_step (fail))
                    refine wpQuiet_nil ?_
                    rintro w4 ⟨⟨_, ho4⟩, rfl⟩
                    have u0 := z0 ⟨w4, ho4⟩
                    have u1 := z1 ⟨w4, ho4⟩
                    have u2 := z2 ⟨w4, ho4⟩
                    have u3 := z3 ⟨w4, ho4⟩
                    clear z0 z1 z2 z3 y0 y1 y2 y3
                    go_wp2_with (first | (go_at_call 14; refine Grew.use (alive_any _ (HE3.out.only ho4 (by simp))) (fun w5 ho5 => ?_)))
                    go_ret
                    exact ⟨rfl, (ho3.trans ho4).trans ho5⟩
                  · have e2 : decide (addr < xa + xb * 8) = false := decide_eq_false g2
                    have HKN := Lib.hid (HN.out (fun hc => by have hh := HCV.out.1 hc; first | exact absurd hh.1 h0 | (simp at hh; omega)))
                    clear HN HCV HB
                    go_wp2_with fail
                    refine wp_region_grew (by kernel_rfl) (by kernel_rfl) ?_
                    repeat (go_big_quiet_step (fail))
                    refine wpQuiet_nil ?_
                    rintro w4 ⟨⟨_, ho4⟩, rfl⟩
                    have u0 := z0 ⟨w4, ho4⟩
                    have u1 := z1 ⟨w4, ho4⟩
                    have u2 := z2 ⟨w4, ho4⟩
                    have u3 := z3 ⟨w4, ho4⟩
                    clear z0 z1 z2 z3 y0 y1 y2 y3
                    have CR := Lib.hid (Read_any (HE3.out.only ho4 (by simp)) (HS3.out.still ho4) addr ha)
                    rw [HKN.out.acc, if_pos rfl, HKN.out.2.2.2.2] at CR
                    go_wp2_with (first | (go_at_call 17; refine Grew.use CR.out (fun w5 ho5 => ?_)))
                    go_roundw
                    case rel => exact ⟨i + 1, by omega, by go_num, (ho3.trans ho4).trans ho5, mn, L3, HKN.out, (HS3.out.still ho4).still ho5, hL3⟩
                    case measure => simp [intOf]; omega
                · have e1 : decide (xa ≤ addr) = false := decide_eq_false g1
                  have HKN := Lib.hid (HN.out (fun hc => by have hh := HCV.out.1 hc; first | exact absurd hh.1 h0 | (simp at hh; omega)))
                  clear HN HCV HB
                  go_wp2_with fail
                  refine wp_region_grew (by kernel_rfl) (by kernel_rfl) ?_
                  repeat (go_big_quiet_step (fail))
                  refine wpQuiet_nil ?_
                  rintro w4 ⟨⟨_, ho4⟩, rfl⟩
                  have u0 := z0 ⟨w4, ho4⟩
                  have u1 := z1 ⟨w4, ho4⟩
                  have u2 := z2 ⟨w4, ho4⟩
                  have u3 := z3 ⟨w4, ho4⟩
                  clear z0 z1 z2 z3 y0 y1 y2 y3
                  have CR := Lib.hid (Read_any (HE3.out.only ho4 (by simp)) (HS3.out.still ho4) addr ha)
                  rw [HKN.out.acc, if_pos rfl, HKN.out.2.2.2.2] at CR
                  go_wp2_with (first | (go_at_call 17; refine Grew.use CR.out (fun w5 ho5 => ?_)))
                  go_roundw
                  case rel => exact ⟨i + 1, by omega, by go_num, (ho3.trans ho4).trans ho5, mn, L3, HKN.out, (HS3.out.still ho4).still ho5, hL3⟩
                  case measure => simp [intOf]; omega
              have k6 : (xk == 6) = false := beq_eq_false_iff_ne.2 hk
              by_cases hk : xk = 7
              ·
                subst hk
                obtain ⟨r1, r2⟩ := (HB h0).2.2.2 rfl
                by_cases g1 : xa ≤ addr
                · have e1 : decide (xa ≤ addr) = true := decide_eq_true g1
                  by_cases g2 : addr < xa + xc * 8
                  · have e2 : decide (addr < xa + xc * 8) = true := decide_eq_true g2
                    clear HN HCV HB
                    go_wp2_with fail
                    refine wp_region_grew (by kernel_rfl) (by kernel_rfl) ?_
                    repeat (go_big_quiet_step (fail))
                    refine wpQuiet_nil ?_
                    rintro w4 ⟨⟨_, ho4⟩, rfl⟩
                    have u0 := z0 ⟨w4, ho4⟩
                    have u1 := z1 ⟨w4, ho4⟩
                    have u2 := z2 ⟨w4, ho4⟩
                    have u3 := z3 ⟨w4, ho4⟩
                    clear z0 z1 z2 z3 y0 y1 y2 y3
                    go_wp2_with (first | (go_at_call 14; refine Grew.use (alive_any _ (HE3.out.only ho4 (by simp))) (fun w5 ho5 => ?_)))
                    go_ret
                    exact ⟨rfl, (ho3.trans ho4).trans ho5⟩
                  · have e2 : decide (addr < xa + xc * 8) = false := decide_eq_false g2
                    have HKN := Lib.hid (HN.out (fun hc => by have hh := HCV.out.1 hc; first | exact absurd hh.1 h0 | (simp at hh; omega)))
                    clear HN HCV HB
                    go_wp2_with fail
                    refine wp_region_grew (by kernel_rfl) (by kernel_rfl) ?_
                    repeat (go_big_quiet_step (fail))
                    refine wpQuiet_nil ?_
                    rintro w4 ⟨⟨_, ho4⟩, rfl⟩
                    have u0 := z0 ⟨w4, ho4⟩
                    have u1 := z1 ⟨w4, ho4⟩
                    have u2 := z2 ⟨w4, ho4⟩
                    have u3 := z3 ⟨w4, ho4⟩
                    clear z0 z1 z2 z3 y0 y1 y2 y3
                    have CR := Lib.hid (Read_any (HE3.out.only ho4 (by simp)) (HS3.out.still ho4) addr ha)
                    rw [HKN.out.acc, if_pos rfl, HKN.out.2.2.2.2] at CR
                    go_wp2_with (first | (go_at_call 17; refine Grew.use CR.out (fun w5 ho5 => ?_)))
                    go_roundw
                    case rel => exact ⟨i + 1, by omega, by go_num, (ho3.trans ho4).trans ho5, mn, L3, HKN.out, (HS3.out.still ho4).still ho5, hL3⟩
                    case measure => simp [intOf]; omega
                · have e1 : decide (xa ≤ addr) = false := decide_eq_false g1
                  have HKN := Lib.hid (HN.out (fun hc => by have hh := HCV.out.1 hc; first | exact absurd hh.1 h0 | (simp at hh; omega)))
                  clear HN HCV HB
                  go_wp2_with fail
                  refine wp_region_grew (by kernel_rfl) (by kernel_rfl) ?_
                  repeat (go_big_quiet_step (fail))
                  refine wpQuiet_nil ?_
                  rintro w4 ⟨⟨_, ho4⟩, rfl⟩
                  have u0 := z0 ⟨w4, ho4⟩
                  have u1 := z1 ⟨w4, ho4⟩
                  have u2 := z2 ⟨w4, ho4⟩
                  have u3 := z3 ⟨w4, ho4⟩
                  clear z0 z1 z2 z3 y0 y1 y2 y3
                  have CR := Lib.hid (Read_any (HE3.out.only ho4 (by simp)) (HS3.out.still ho4) addr ha)
                  rw [HKN.out.acc, if_pos rfl, HKN.out.2.2.2.2] at CR
                  go_wp2_with (first | (go_at_call 17; refine Grew.use CR.out (fun w5 ho5 => ?_)))
                  go_roundw
                  case rel => exact ⟨i + 1, by omega, by go_num, (ho3.trans ho4).trans ho5, mn, L3, HKN.out, (HS3.out.still ho4).still ho5, hL3⟩
                  case measure => simp [intOf]; omega
              have k7 : (xk == 7) = false := beq_eq_false_iff_ne.2 hk
              have j1 : xk ≠ 1 := beq_eq_false_iff_ne.1 k1
              have j2 : xk ≠ 2 := beq_eq_false_iff_ne.1 k2
              have j4 : xk ≠ 4 := beq_eq_false_iff_ne.1 k4
              have j6 : xk ≠ 6 := beq_eq_false_iff_ne.1 k6
              have HKN := Lib.hid (HN.out (fun hc => by have hh := HCV.out.1 hc; first | exact absurd hh.1 h0 | (simp at hh; omega)))
              clear HN HCV HB
              go_wp2_with fail
              refine wp_region_grew (by kernel_rfl) (by kernel_rfl) ?_
              repeat (go_big_quiet_step (fail))
              refine wpQuiet_nil ?_
              rintro w4 ⟨⟨_, ho4⟩, rfl⟩
              have u0 := z0 ⟨w4, ho4⟩
              have u1 := z1 ⟨w4, ho4⟩
              have u2 := z2 ⟨w4, ho4⟩
              have u3 := z3 ⟨w4, ho4⟩
              clear z0 z1 z2 z3 y0 y1 y2 y3
              have CR := Lib.hid (Read_any (HE3.out.only ho4 (by simp)) (HS3.out.still ho4) addr ha)
              rw [HKN.out.acc, if_pos rfl, HKN.out.2.2.2.2] at CR
              go_wp2_with (first | (go_at_call 17; refine Grew.use CR.out (fun w5 ho5 => ?_)))
              go_roundw
              case rel => exact ⟨i + 1, by omega, by go_num, (ho3.trans ho4).trans ho5, mn, L3, HKN.out, (HS3.out.still ho4).still ho5, hL3⟩
              case measure => simp [intOf]; omega
            · have E0 : (ee == 0) = false := beq_eq_false_iff_ne.2 h0
              have E1 : (ee != 0) = true := bne_iff_ne.2 h0
              by_cases hk : xk = 4
              · subst hk
                have HKN := Lib.hid (HN.out (fun hc => by have hh := HCV.out.1 hc; first | exact absurd hh.1 h0 | (simp at hh; omega)))
                clear HN HCV HB
                go_wp2_with fail
                refine wp_region_grew (by kernel_rfl) (by kernel_rfl) ?_
                repeat (go_big_quiet_step (fail))
                refine wpQuiet_nil ?_
                rintro w4 ⟨⟨_, ho4⟩, rfl⟩
                have u0 := z0 ⟨w4, ho4⟩
                have u1 := z1 ⟨w4, ho4⟩
                have u2 := z2 ⟨w4, ho4⟩
                have u3 := z3 ⟨w4, ho4⟩
                clear z0 z1 z2 z3 y0 y1 y2 y3
                have CR := Lib.hid (Read_any (HE3.out.only ho4 (by simp)) (HS3.out.still ho4) addr ha)
                rw [HKN.out.acc, if_pos rfl, HKN.out.2.2.2.2] at CR
                go_wp2_with (first | (go_at_call 17; refine Grew.use CR.out (fun w5 ho5 => ?_)))
                go_roundw
                case rel => exact ⟨i + 1, by omega, by go_num, (ho3.trans ho4).trans ho5, mn, L3, HKN.out, (HS3.out.still ho4).still ho5, hL3⟩
                case measure => simp [intOf]; omega
              have k4 : (xk == 4) = false := beq_eq_false_iff_ne.2 hk
              by_cases hk : xk = 7
              · subst hk
                have HKN := Lib.hid (HN.out (fun hc => by have hh := HCV.out.1 hc; first | exact absurd hh.1 h0 | (simp at hh; omega)))
                clear HN HCV HB
                go_wp2_with fail
                refine wp_region_grew (by kernel_rfl) (by kernel_rfl) ?_
                repeat (go_big_quiet_step (fail))
                refine wpQuiet_nil ?_
                rintro w4 ⟨⟨_, ho4⟩, rfl⟩
                have u0 := z0 ⟨w4, ho4⟩
                have u1 := z1 ⟨w4, ho4⟩
                have u2 := z2 ⟨w4, ho4⟩
                have u3 := z3 ⟨w4, ho4⟩
                clear z0 z1 z2 z3 y0 y1 y2 y3
                have CR := Lib.hid (Read_any (HE3.out.only ho4 (by simp)) (HS3.out.still ho4) addr ha)
                rw [HKN.out.acc, if_pos rfl, HKN.out.2.2.2.2] at CR
                go_wp2_with (first | (go_at_call 17; refine Grew.use CR.out (fun w5 ho5 => ?_)))
                go_roundw
                case rel => exact ⟨i + 1, by omega, by go_num, (ho3.trans ho4).trans ho5, mn, L3, HKN.out, (HS3.out.still ho4).still ho5, hL3⟩
                case measure => simp [intOf]; omega
              have k7 : (xk == 7) = false := beq_eq_false_iff_ne.2 hk
              have HKN := Lib.hid (HN.out (fun hc => by have hh := HCV.out.1 hc; first | exact absurd hh.1 h0 | (simp at hh; omega)))
              clear HN HCV HB
              go_wp2_with fail
              refine wp_region_grew (by kernel_rfl) (by kernel_rfl) ?_
              repeat (go_big_quiet_step (fail))
              refine wpQuiet_nil ?_
              rintro w4 ⟨⟨_, ho4⟩, rfl⟩
              have u0 := z0 ⟨w4, ho4⟩
              have u1 := z1 ⟨w4, ho4⟩
              have u2 := z2 ⟨w4, ho4⟩
              have u3 := z3 ⟨w4, ho4⟩
              clear z0 z1 z2 z3 y0 y1 y2 y3
              have CR := Lib.hid (Read_any (HE3.out.only ho4 (by simp)) (HS3.out.still ho4) addr ha)
              rw [HKN.out.acc, if_pos rfl, HKN.out.2.2.2.2] at CR
              go_wp2_with (first | (go_at_call 17; refine Grew.use CR.out (fun w5 ho5 => ?_)))
              go_roundw
              case rel => exact ⟨i + 1, by omega, by go_num, (ho3.trans ho4).trans ho5, mn, L3, HKN.out, (HS3.out.still ho4).still ho5, hL3⟩
              case measure => simp [intOf]; omega
          · have e : i = n' := by omega
            subst e
            have d2 : decide ((i : Int) < i) = false := decide_eq_false (by omega)
            go_wp2_with (first | (go_at_call 14; refine Grew.use (alive_any _ (HE.out.only hoi (by simp))) (fun w5 ho5 => ?_)))
            go_ret
            exact ⟨rfl, hoi.trans ho5⟩
      · have d2 : (m1.acc addr 1 == 0) = false := beq_eq_false_iff_ne.2 hw0
        have d3 : (m1.acc addr 1 != 0) = true := bne_iff_ne.2 hw0
        have HHL := Lib.hid hL
        clear hs hL hw0
        generalize m1.acc addr 1 = aa at *
        go_wp2_with fail
        refine CW.out.mono ?_
        rintro e w2 ⟨rfl, hT⟩
        obtain ⟨ho2, L2, hs2, hL2⟩ := Turn.new ho HHL.out hT
        go_wp2_with (first | (go_at_call 14; refine Grew.use (alive_any _ (HE.out.only ho2 (by simp))) (fun w5 ho5 => ?_)))
        go_ret
        exact ⟨rfl, ho2.trans ho5⟩
end Go.Proofs.YtmalmkccgjeboaaDoor

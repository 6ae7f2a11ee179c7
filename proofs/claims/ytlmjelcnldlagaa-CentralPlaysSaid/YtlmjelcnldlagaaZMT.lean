/- CentralPlays, walked. -/
import Derived.Test.YtlmjelcnldlagaaZMS
set_option linter.unusedVariables false
set_option linter.unusedSimpArgs false
namespace Go.Proofs.Ytlmjelcnldlagaa
open Go.RowKit

set_option maxRecDepth 100000 in
set_option maxHeartbeats 8000000 in
theorem CentralPlays_walk (w : World) (cx cy cz : Int) (_ : I64 cx) (_ : I64 cy) (_ : I64 cz) (A : Option Addr) (n cp : Nat) (l : List Ac7) (hr : ReadsA w A n l) (hn : n ≤ 9223372036854775807) :
    Grew Try.prog 10 #[.agg #[.int .i64 cx, .int .i64 cy, .int .i64 cz], .slice A n cp] w (.bool true) := by
  have hlen := hr.1
  obtain ⟨w0, hw0⟩ : ∃ w0, w0 = w.alloc (.cells #[.int .i64 cx, .int .i64 cy, .int .i64 cz] 23) := ⟨_, rfl⟩
  have oB : Only [] w w0 := by rw [hw0]; exact (Only.refl [] w).alloc _
  have bC : Blk w0 w.heap.size 23 #[.int .i64 cx, .int .i64 cy, .int .i64 cz] := by rw [hw0]; exact Blk.new w _ _
  have CG := Lib.hid (great_any w0 A n cp l (hr.still oB) hn)
  have HOB := Lib.hid oB
  have HBC := Lib.hid bC
  have HW0 := Lib.hid hw0
  have HR := Lib.hid hr
  cases hg : greatOf l with
  | true =>
    rw [hg] at CG
    clear hr hlen oB bC hw0
    go_enter Try.func10, Try.ntmps10
    go_wp2_with fail
    rw [← HW0.out]
    go_wp2_with (first | (go_at_call 13; with_reducible refine Still.use CG.out ?_) | (go_at_call 14; with_reducible refine Grew.use (alive_any _) (fun w5 ho5 => ?_)))
    go_ret
    exact ⟨rfl, HOB.out.trans ho5⟩
  | false =>
    rw [hg] at CG
    obtain ⟨hn40, h60⟩ := greatOf_false hg
    rw [hlen] at hn40 h60
    have H60 := Lib.hid h60
    have CN := Lib.hid (lNew_any w0 ⟨cx, cy, cz⟩)
    have CQ := Lib.hid (fun W => qNew_any W ⟨cx, cy, cz⟩)
    have y0 := bC.cell_ 0 rfl
    have y1 := bC.cell_ 1 rfl
    have y2 := bC.cell_ 2 rfl
    clear hr hlen oB bC hw0 hg h60
    go_enter Try.func10, Try.ntmps10
    go_wp2_with fail
    rw [← HW0.out]
    go_wp2_with (go_at_call 13; with_reducible refine Still.use CG.out ?_)
    refine CN.out.mono ?_
    rintro e w1 ⟨ho1, h1, h2⟩
    have bC1 := HBC.out.only ho1 (by simp)
    have HO1 := Lib.hid (HOB.out.trans ho1)
    clear y0 y1 y2 ho1 CN
    have y0 := bC1.cell_ 0 rfl
    have y1 := bC1.cell_ 1 rfl
    have y2 := bC1.cell_ 2 rfl
    by_cases hok : (⟨cx, cy, cz⟩ : Cl).ok
    · obtain ⟨P, bl, rfl, hst, hbl⟩ := h1 hok
      have HOK := Lib.hid hok
      have HST := Lib.hid hst
      have HBL := Lib.hid (fun b (hb : b ∈ bl) => Nat.le_trans HOB.out.size (hbl b hb))
      clear h1 h2 hst hbl hok
      go_wp2_with fail
      refine (CQ.out w1).mono ?_
      rintro e w2 ⟨ho2, h1, _⟩
      obtain ⟨Q, bq, rfl, hst2, hbq⟩ := h1 HOK.out
      have HT := Lib.hid (show TwoL w w2 P bl Q bq ⟨cx, cy, cz⟩ [] [] from ⟨HO1.out.trans ho2, HST.out.still ho2, hst2, fun b hb hb' => by
        have a1 := hbq b hb
        have a2 := HST.out.lt b hb'
        omega, HBL.out, fun b hb => Nat.le_trans HO1.out.size (hbq b hb)⟩)
      clear h1 hst2 hbq ho2 y0 y1 y2 bC1
      obtain ⟨cc, hcc⟩ : ∃ cc : Cl, cc = ⟨cx, cy, cz⟩ := ⟨_, rfl⟩
      rw [← hcc] at HT
      clear hcc
      go_wp2_with fail
      go_loopw [5, 7, 9] (fun u v t wr => ∃ (k P : Nat) (bl : List Nat) (Q : Nat) (bq : List Nat), k ≤ n ∧ u = .pointer (some ⟨P, 0, none⟩) ∧ v = .pointer (some ⟨Q, 0, none⟩) ∧ t = .int .i64 k ∧ TwoL w wr P bl Q bq cc (acts cc [] l k) (acts cc [] l k)) (fun _ _ t _ => n - (intOf t).toNat)
      case atStart => exact ⟨0, P, bl, Q, bq, Nat.zero_le _, rfl, rfl, rfl, HT.out⟩
      case round =>
        clear HT HST HBL
        obtain ⟨k, P, bl, Q, bq, hk, rfl, rfl, rfl, hT⟩ := hrel
        have HT := Lib.hid hT
        by_cases hlt : k < n
        · have d1 : decide ((k : Int) < n) = true := decide_eq_true (by omega)
          obtain ⟨hxok, ad, rfl, c0, c1, c2⟩ := (HR.out.still hT.only).at_ hlt
          have hold := (HR.out.at_ hlt).1.old
          have HC := Lib.hid (fun W (h : Only [] w W) => show (xAt l k).okAt W ∧ W.cell? (ad.add (k * 3)) = some (.int .i64 (xAt l k).k) ∧ W.cell? ⟨(ad.add (k * 3)).block, (ad.add (k * 3)).off + 1, none⟩ = some (.int .i64 (xAt l k).a) ∧ W.cell? ⟨(ad.add (k * 3)).block, (ad.add (k * 3)).off + 2, none⟩ = some (.slice (xAt l k).B (xAt l k).n (xAt l k).cap) from by
            obtain ⟨a0, ad', e, a1, a2, a3⟩ := (HR.out.still h).at_ hlt
            injection e with e
            subst e
            exact ⟨a0, a1, a2, a3⟩)
          have CP := Lib.hid (fun W bl bq P Q (h : TwoL w W P bl Q bq cc (acts cc [] l k) (acts cc [] l k)) => lplay2 h (xAt l k) (HC.out W h.only).1 (H60.out k hlt) hold)
          have HACT : Hid (acts cc [] l (k + 1) = actM cc (acts cc [] l k) (xAt l k)) := rfl
          clear hT hxok hold
          unfold Ac7.val at CP
          generalize xAt l k = x at *
          obtain ⟨xk, xa, xB, xn, xc, xo⟩ := x
          dsimp only at *
          by_cases k6 : xk = 6
          · subst k6
            have CC := Lib.hid (lClone_at HT.out.l)
            go_wp2_with fail
            refine CC.out.mono ?_
            rintro e w3 ⟨ho3, X, bx, rfl, hst3, hbx⟩
            have CC2 := Lib.hid (qClone_at (HT.out.r.still ho3))
            have HST3 := Lib.hid hst3
            have HBX := Lib.hid hbx
            have HO3 := Lib.hid ho3
            clear hst3 hbx ho3 c0 c1 c2
            go_wp2_with fail
            refine CC2.out.mono ?_
            rintro e w4 ⟨ho4, Y, by', rfl, hst4, hby⟩
            have HT4 := Lib.hid (show TwoL w w4 X bx Y by' cc (acts cc [] l k) (acts cc [] l k) from ⟨(HT.out.only.trans HO3.out).trans ho4, HST3.out.still ho4, hst4, fun b hb hb' => by
              have a1 := hby b hb
              have a2 := HST3.out.lt b hb'
              omega, fun b hb => Nat.le_trans HT.out.only.size (HBX.out b hb), fun b hb => Nat.le_trans (HT.out.only.trans HO3.out).size (hby b hb)⟩)
            clear hst4 hby ho4
            obtain ⟨_, c0, c1, c2⟩ := HC.out w4 HT4.out.only
            go_wp2_with fail
            refine (CP.out w4 _ _ _ _ HT4.out).mono ?_
            rintro e w5 ⟨rfl, bl5, bq5, hT5⟩
            have HT5 := Lib.hid hT5
            clear hT5
            go_wp2_with fail
            go_roundw
            case rel => exact ⟨k + 1, X, bl5, Y, bq5, by omega, rfl, rfl, by go_num, by rw [HACT.out]; exact HT5.out⟩
            case measure => simp [intOf]; omega
          · have d6 : (xk == 6) = false := beq_eq_false_iff_ne.2 k6
            clear k6
            go_wp2_with fail
            refine (CP.out wr _ _ _ _ HT.out).mono ?_
            rintro e w5 ⟨rfl, bl5, bq5, hT5⟩
            have HT5 := Lib.hid hT5
            clear hT5
            go_wp2_with fail
            go_roundw
            case rel => exact ⟨k + 1, P, bl5, Q, bq5, by omega, rfl, rfl, by go_num, by rw [HACT.out]; exact HT5.out⟩
            case measure => simp [intOf]; omega
        · have e : k = n := by omega
          subst e
          have d1 : decide ((k : Int) < k) = false := decide_eq_false (by omega)
          have CS := Lib.hid (lSame2 hT.l hT.r)
          clear hT
          go_wp2_with (first | (go_at_call 36; with_reducible refine Grew.use CS.out (fun w5 ho5 => ?_)) | (go_at_call 14; with_reducible refine Grew.use (alive_any _) (fun w6 ho6 => ?_)))
          go_ret
          exact ⟨rfl, (HT.out.only.trans ho5).trans ho6⟩
    · obtain rfl := h2 hok
      have HOK := Lib.hid hok
      clear h1 h2 hok
      go_wp2_with fail
      refine (CQ.out w1).mono ?_
      rintro e w2 ⟨ho2, _, h2⟩
      obtain rfl := h2 HOK.out
      have HO2 := Lib.hid (HO1.out.trans ho2)
      clear h2 y0 y1 y2 bC1 ho2
      go_wp2_with fail
      go_loopw [5, 7, 9] (fun u v t wr => ∃ (k : Nat), k ≤ n ∧ u = .pointer none ∧ v = .pointer none ∧ t = .int .i64 k ∧ Only [] w wr) (fun _ _ t _ => n - (intOf t).toNat)
      case atStart => exact ⟨0, Nat.zero_le _, rfl, rfl, rfl, HO2.out⟩
      case round =>
        obtain ⟨k, hk, rfl, rfl, rfl, ho⟩ := hrel
        by_cases hlt : k < n
        · have d1 : decide ((k : Int) < n) = true := decide_eq_true (by omega)
          obtain ⟨hxok, ad, rfl, c0, c1, c2⟩ := (HR.out.still ho).at_ hlt
          have CP := Lib.hid (fun W => lplay_un (lun_nil W) (xAt l k))
          unfold Ac7.val at CP
          clear hxok
          generalize xAt l k = x at *
          obtain ⟨xk, xa, xB, xn, xc, xo⟩ := x
          dsimp only at *
          by_cases k6 : xk = 6
          · subst k6
            go_wp2_with (first | (go_at_call 33; with_reducible refine Still.use (lClone_un (lun_nil _)) ?_) | (go_at_call 34; with_reducible refine Still.use (qClone_un _) ?_) | (go_at_call 35; with_reducible refine Grew.use (CP.out _) (fun w5 ho5 => ?_)))
            go_roundw
            case rel => exact ⟨k + 1, by omega, rfl, rfl, by go_num, ho.trans ho5⟩
            case measure => simp [intOf]; omega
          · have d6 : (xk == 6) = false := beq_eq_false_iff_ne.2 k6
            clear k6
            go_wp2_with (first | (go_at_call 35; with_reducible refine Grew.use (CP.out _) (fun w5 ho5 => ?_)))
            go_roundw
            case rel => exact ⟨k + 1, by omega, rfl, rfl, by go_num, ho.trans ho5⟩
            case measure => simp [intOf]; omega
        · have e : k = n := by omega
          subst e
          have d1 : decide ((k : Int) < k) = false := decide_eq_false (by omega)
          go_wp2_with (first | (go_at_call 36; with_reducible refine Grew.use (lSame_un (lun_nil _)) (fun w5 ho5 => ?_)) | (go_at_call 14; with_reducible refine Grew.use (alive_any _) (fun w6 ho6 => ?_)))
          go_ret
          exact ⟨rfl, (ho.trans ho5).trans ho6⟩
end Go.Proofs.Ytlmjelcnldlagaa

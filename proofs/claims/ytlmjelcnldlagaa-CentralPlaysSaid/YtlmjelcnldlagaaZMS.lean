/- Same of a list and the reference's. -/
import Derived.Test.YtlmjelcnldlagaaZMR
set_option linter.unusedVariables false
set_option linter.unusedSimpArgs false
namespace Go.Proofs.Ytlmjelcnldlagaa
open Go.RowKit

set_option maxRecDepth 100000 in
set_option maxHeartbeats 8000000 in
theorem lSame2 {w : World} {P Q : Nat} {bl bl' : List Nat} {c : Cl} {M : List Sp} (h : ListSt w P bl c M) (h' : QSt w Q bl' c M) : Grew Try.prog 36 #[.pointer (some ⟨P, 0, none⟩), .pointer (some ⟨Q, 0, none⟩)] w (.bool true) := by
  have HA := Lib.hid h
  have HB := Lib.hid h'
  have HG := Lib.hid h.goodL
  have hlen := h.goodL.len
  obtain ⟨g1, g2, g3⟩ := h.goodL.ok.objs
  have HOBJ := Lib.hid g3
  have HOK := Lib.hid h.goodL.ok
  have S1 := Lib.hid (fun W (ho : Only [] w W) => lSpans_st (HA.out.still ho))
  have S2 := Lib.hid (fun W (ho : Only [] w W) => qSpans_st (HB.out.still ho))
  have T1 := Lib.hid (fun W (ho : Only [] w W) => lTaken_st (HA.out.still ho))
  have T2 := Lib.hid (fun W (ho : Only [] w W) => qTaken_st (HB.out.still ho))
  have R1 := Lib.hid (fun W (ho : Only [] w W) => lRoom_st (HA.out.still ho))
  have R2 := Lib.hid (fun W (ho : Only [] w W) => qRoom_st (HB.out.still ho))
  have C1 := Lib.hid (fun W (ho : Only [] w W) => lClass_st (HA.out.still ho))
  have C2 := Lib.hid (fun W (ho : Only [] w W) => qClass_st (HB.out.still ho))
  have K1 := Lib.hid (fun W (ho : Only [] w W) a (ha : I64 a) => lIsTaken_st (HA.out.still ho) a ha)
  have K2 := Lib.hid (fun W (ho : Only [] w W) a => qIsTaken_st (HB.out.still ho) a)
  have HRUN := Lib.hid (fun W v1 v2 b1 b2 (h1 : W.ownsRow b1 37 2 v1 M.length (cellsR (spansOf M))) (h2 : W.ownsRow b2 37 2 v2 M.length (cellsR (spansOf M))) => Runs_eq W v1 v2 M.length (spansOf M) (own_reads_runs h1 rfl) (own_reads_runs h2 rfl) (by omega))
  have HOJ := Lib.hid (fun W => robj_any W c.size c.pages c.batch HOK.out)
  obtain ⟨mo, hmo⟩ : ∃ mo, mo = manyOf M := ⟨_, rfl⟩
  obtain ⟨ro, hro⟩ : ∃ ro, ro = roomOf M := ⟨_, rfl⟩
  rw [← hmo] at T1 T2
  rw [← hro] at R1 R2
  clear h h' hmo hro g3
  generalize hN : c.pages * 256 / c.size = ob at *
  clear hN
  go_enter Try.func36, Try.ntmps36
  go_wp2_with (first
    | (go_at_call 22; with_reducible refine Grew.use (R1.out w (Only.refl _ _)) (fun w1 ho1 => ?_))
    | (go_at_call 64; with_reducible refine Grew.use (R2.out w1 ho1) (fun w2 ho2 => ?_); have o2 := ho1.trans ho2)
    | (go_at_call 27; with_reducible refine Grew.use (T1.out w2 o2) (fun w3 ho3 => ?_); have o3 := o2.trans ho3)
    | (go_at_call 65; with_reducible refine Grew.use (T2.out w3 o3) (fun w4 ho4 => ?_); have o4 := o3.trans ho4)
    | (go_at_call 45; with_reducible refine Grew.use (C1.out w4 o4) (fun w5 ho5 => ?_); have o5 := o4.trans ho5)
    | (go_at_call 66; with_reducible refine Grew.use (C2.out w5 o5) (fun w6 ho6 => ?_); have o6 := o5.trans ho6)
    | (go_at_call 16; with_reducible refine (S1.out w6 o6).mono ?_; rintro e w7 ⟨v1, rfl, ho7, hown1⟩; have o7 := o6.trans ho7)
    | (go_at_call 67; with_reducible refine (S2.out w7 o7).mono ?_; rintro e w8 ⟨v2, rfl, ho8, hown2⟩; have o8 := o7.trans ho8; have CR := Lib.hid (HRUN.out w8 v1 v2 _ _ (own_only hown1 ho8 (by simp)) hown2); clear hown1 hown2)
    | (go_at_call 30; with_reducible refine Grew.use CR.out (fun w9 ho9 => ?_); have o9 := o8.trans ho9))
  refine (S2.out w9 o9).mono ?_
  rintro e wA ⟨v, rfl, hoA, hown⟩
  have oA := o9.trans hoA
  obtain ⟨A, cp, rfl, _⟩ := own_slice hown
  have HOWN := Lib.hid hown
  obtain ⟨N, hN⟩ : ∃ N, N = M.length := ⟨_, rfl⟩
  have HN := Lib.hid hN
  have HOA := Lib.hid oA
  rw [← hN] at hlen
  clear hown hN hoA oA o9 o8 o7 o6 o5 o4 o3 o2 ho1 ho2 ho3 ho4 ho5 ho6 ho7 ho8 ho9 S1 S2 T1 T2 R1 R2 C1 CR
  rw [← HN.out]
  go_wp2_with fail
  go_loopw [6] (fun t wr => ∃ i : Nat, i ≤ N ∧ t = .int .i64 i ∧ Only [] wA wr) (fun t _ => N - (intOf t).toNat)
  case atStart => exact ⟨0, Nat.zero_le _, rfl, Only.refl _ _⟩
  case round =>
    obtain ⟨i, hi, rfl, ho⟩ := hrel
    by_cases hlt : i < N
    · have d1 : decide ((i : Int) < N) = true := decide_eq_true (by omega)
      have hiM : i < M.length := by rw [← HN.out]; exact hlt
      have HIM := Lib.hid hiM
      have HO := Lib.hid ho
      clear hiM ho
      go_wp2_with fail
      go_loopw [7] (fun t wr => ∃ k : Nat, (k : Int) ≤ ob ∧ t = .int .i64 k ∧ Only [] wA wr) (fun t _ => ob.toNat - (intOf t).toNat)
      case atStart => exact ⟨0, by omega, rfl, HO.out⟩
      case round =>
        obtain ⟨k, hk, rfl, ho⟩ := hrel
        have HOW := Lib.hid ho
        have CC1 := Lib.hid (C2.out wr (HOA.out.trans ho))
        by_cases hlk : (k : Int) < ob
        · have d2 : decide ((k : Int) < ob) = true := decide_eq_true hlk
          obtain ⟨g, cp', e1, _⟩ := own_form HOWN.out (by rw [← HN.out]; omega)
          injection e1 with e1 _ e3
          subst e1 e3
          have HR := Lib.hid (fun W (h : Only [] wA W) => own_spans (own_only HOWN.out h (by simp)) rfl HIM.out)
          obtain ⟨m1, m2⟩ := HOBJ.out k (by omega) hlk
          have gs := (HG.out.sp i HIM.out).1
          have s1 := gs.b1
          have s2 := gs.b2
          have s3 := gs.p1
          have KA := Lib.hid (fun W (h : Only [] wA W) => K1.out W (HOA.out.trans h) ((sAt M i).start * 256 + (k : Int) * c.size) (by unfold I64; omega))
          have KB := Lib.hid (fun W (h : Only [] wA W) => K2.out W (HOA.out.trans h) ((sAt M i).start * 256 + (k : Int) * c.size))
          generalize (isTk M ((sAt M i).start * 256 + (k : Int) * c.size)).1 = b1 at *
          generalize (isTk M ((sAt M i).start * 256 + (k : Int) * c.size)).2 = b2 at *
          have s4 : (sAt M i).start ≤ 1024 := by omega
          generalize (sAt M i).start = st at *
          clear gs s2 s3 ho
          go_wp2_with (first
            | (go_at_call 66; with_reducible refine Grew.use CC1.out (fun wD hoD => ?_); have CO := Lib.hid (HOJ.out wD))
            | (go_at_call 20; with_reducible refine Grew.use CO.out (fun wE hoE => ?_); have oE := (HOW.out.trans hoD).trans hoE; have r0 := (HR.out wE oE).1))
          have R0 := cell_after r0
          have CC2 := Lib.hid (fun u : After wE => C2.out u.w' (HOA.out.trans (oE.trans u.ok)))
          clear r0
          have hfd : ∀ W : World, (Instr.field 23 (.agg #[.int .i64 c.size, .int .i64 c.pages, .int .i64 c.batch]) 0).run Try.prog W = .ok (.int .i64 c.size) W := fun _ => by kernel_rfl
          go_wp2_with fail
          refine wp_region_grew (by kernel_rfl) (by kernel_rfl) ?_
          repeat (go_big_quiet_step (first | (go_at_call 66; exact Grew.g (CC2.out _))))
          refine wpQuiet_nil ?_
          rintro _ ⟨u, rfl⟩
          have oU := oE.trans u.ok
          go_wp2_with (first
            | (go_at_call 39; with_reducible refine Grew.use (KA.out _ oU) (fun wF hoF => ?_); have oF := oU.trans hoF)
            | (go_at_call 63; with_reducible refine Grew.use (KB.out wF oF) (fun wG hoG => ?_); have oG := oF.trans hoG))
          go_roundw
          case rel => exact ⟨k + 1, by omega, by go_num, oG⟩
          case measure => simp [intOf]; omega
        · have d2 : decide ((k : Int) < ob) = false := decide_eq_false hlk
          clear ho
          go_wp2_with (first
            | (go_at_call 66; with_reducible refine Grew.use CC1.out (fun wD hoD => ?_); have CO := Lib.hid (HOJ.out wD))
            | (go_at_call 20; with_reducible refine Grew.use CO.out (fun wE hoE => ?_)))
          go_roundw
          case rel => exact ⟨i + 1, by omega, by go_num, (HOW.out.trans hoD).trans hoE⟩
          case measure => simp [intOf]; omega
    · have d1 : decide ((i : Int) < N) = false := decide_eq_false (by omega)
      go_wp2_with fail
      go_ret
      exact ⟨rfl, HOA.out.trans ho⟩
end Go.Proofs.Ytlmjelcnldlagaa

/- alike of the list's laws. -/
import Derived.Test.YtlmjelcnldlagaaZLS
import Derived.Test.YtlmjelcnldlagaaZSpM
set_option linter.unusedVariables false
set_option linter.unusedSimpArgs false
namespace Go.Proofs.Ytlmjelcnldlagaa
open Go.RowKit

theorem Cl.ok.objs {c : Cl} (h : c.ok) : 1 ≤ c.pages * 256 / c.size ∧ c.pages * 256 / c.size ≤ 128 ∧ ∀ k : Int, 0 ≤ k → k < c.pages * 256 / c.size → 0 ≤ k * c.size ∧ k * c.size ≤ 1024 := by
  obtain ⟨h1, h2, h3, h4, h5, h6, _⟩ := h
  have hd : c.pages * 256 / c.size * c.size ≤ c.pages * 256 := Int.ediv_mul_le _ (by omega)
  have hq : 1 ≤ c.pages * 256 / c.size := (Int.le_ediv_iff_mul_le (by omega)).2 (by omega)
  have hq2 : c.pages * 256 / c.size ≤ 128 := by
    have : c.pages * 256 / c.size * 8 ≤ c.pages * 256 / c.size * c.size := Int.mul_le_mul_of_nonneg_left h1 (by omega)
    omega
  refine ⟨hq, hq2, fun k k0 k1 => ?_⟩
  have a1 : 0 * c.size ≤ k * c.size := Int.mul_le_mul_of_nonneg_right k0 (by omega)
  have a2 : k * c.size ≤ c.pages * 256 / c.size * c.size := Int.mul_le_mul_of_nonneg_right (by omega) (by omega)
  omega
/-- Row i of the runs of a list of spans. -/
theorem own_spans {w : World} {base n g cp : Nat} {M : List Sp} (h : w.ownsRow base 37 2 (.slice (some ⟨g, 0, none⟩) n cp) n (cellsR (spansOf M))) (hn : n = M.length) {i : Nat} (hi : i < n) : w.cell? ⟨g, i * 2, none⟩ = some (.int .i64 (sAt M i).start) ∧ w.cell? ⟨g, i * 2 + 1, none⟩ = some (.int .i64 (sAt M i).pages) := by
  obtain ⟨q0, q1, _⟩ := own_runs h (by rw [hn, spansTo_len]) hi
  rw [spansTo_at M M.length i (by omega)] at q0 q1
  exact ⟨q0, q1⟩
theorem own_reads_runs {w : World} {base n : Nat} {v : Value} {M : List Sp} {k : Nat} (h : w.ownsRow base 37 2 v n (cellsR (spansTo M k))) (hn : n = k) : ReadsR w v n (spansTo M k) := own_readsR h (by rw [spansTo_len]; exact hn)

set_option maxRecDepth 100000 in
set_option maxHeartbeats 8000000 in
theorem lalike_any {w : World} {P Q : Nat} {bl bl' : List Nat} {c : Cl} {M : List Sp} (h : ListSt w P bl c M) (h' : ListSt w Q bl' c M) : Grew Try.prog 29 #[.pointer (some ⟨P, 0, none⟩), .pointer (some ⟨Q, 0, none⟩)] w (.bool true) := by
  have HA := Lib.hid h
  have HB := Lib.hid h'
  have HG := Lib.hid h.goodL
  have hlen := h.goodL.len
  obtain ⟨g1, g2, g3⟩ := h.goodL.ok.objs
  have HOBJ := Lib.hid g3
  have HOK := Lib.hid h.goodL.ok
  have S1 := Lib.hid (fun W (ho : Only [] w W) => lSpans_st (HA.out.still ho))
  have S2 := Lib.hid (fun W (ho : Only [] w W) => lSpans_st (HB.out.still ho))
  have T1 := Lib.hid (fun W (ho : Only [] w W) => lTaken_st (HA.out.still ho))
  have T2 := Lib.hid (fun W (ho : Only [] w W) => lTaken_st (HB.out.still ho))
  have R1 := Lib.hid (fun W (ho : Only [] w W) => lRoom_st (HA.out.still ho))
  have R2 := Lib.hid (fun W (ho : Only [] w W) => lRoom_st (HB.out.still ho))
  have C1 := Lib.hid (fun W (ho : Only [] w W) => lClass_st (HA.out.still ho))
  have C2 := Lib.hid (fun W (ho : Only [] w W) => lClass_st (HB.out.still ho))
  have K1 := Lib.hid (fun W (ho : Only [] w W) a (ha : I64 a) => lIsTaken_st (HA.out.still ho) a ha)
  have K2 := Lib.hid (fun W (ho : Only [] w W) a (ha : I64 a) => lIsTaken_st (HB.out.still ho) a ha)
  have HRUN := Lib.hid (fun W v1 v2 b1 b2 (h1 : W.ownsRow b1 37 2 v1 M.length (cellsR (spansOf M))) (h2 : W.ownsRow b2 37 2 v2 M.length (cellsR (spansOf M))) => Runs_eq W v1 v2 M.length (spansOf M) (own_reads_runs h1 rfl) (own_reads_runs h2 rfl) (by omega))
  have HOJ := Lib.hid (fun W => robj_any W c.size c.pages c.batch HOK.out)
  obtain ⟨mo, hmo⟩ : ∃ mo, mo = manyOf M := ⟨_, rfl⟩
  obtain ⟨ro, hro⟩ : ∃ ro, ro = roomOf M := ⟨_, rfl⟩
  rw [← hmo] at T1 T2
  rw [← hro] at R1 R2
  clear h h' hmo hro g3
  generalize hN : c.pages * 256 / c.size = ob at *
  clear hN
  go_enter Try.func29, Try.ntmps29
  go_wp2_with (first
    | (go_at_call 16; with_reducible refine (S1.out w (Only.refl _ _)).mono ?_; rintro e w1 ⟨v1, rfl, ho1, hown1⟩)
    | (go_at_call 16; with_reducible refine (S2.out w1 ho1).mono ?_; rintro e w2 ⟨v2, rfl, ho2, hown2⟩; have o2 := ho1.trans ho2; have CR := Lib.hid (HRUN.out w2 v1 v2 _ _ (own_only hown1 ho2 (by simp)) hown2); clear hown1 hown2)
    | (go_at_call 30; with_reducible refine Grew.use CR.out (fun w3 ho3 => ?_); have o3 := o2.trans ho3)
    | (go_at_call 27; with_reducible refine Grew.use (T1.out w3 o3) (fun w4 ho4 => ?_); have o4 := o3.trans ho4)
    | (go_at_call 27; with_reducible refine Grew.use (T2.out w4 o4) (fun w5 ho5 => ?_); have o5 := o4.trans ho5)
    | (go_at_call 22; with_reducible refine Grew.use (R1.out w5 o5) (fun w6 ho6 => ?_); have o6 := o5.trans ho6)
    | (go_at_call 22; with_reducible refine Grew.use (R2.out w6 o6) (fun w7 ho7 => ?_); have o7 := o6.trans ho7)
    | (go_at_call 45; with_reducible refine Grew.use (C1.out w7 o7) (fun w8 ho8 => ?_); have o8 := o7.trans ho8)
    | (go_at_call 45; with_reducible refine Grew.use (C2.out w8 o8) (fun w9 ho9 => ?_); have o9 := o8.trans ho9))
  refine (S1.out w9 o9).mono ?_
  rintro e wA ⟨v, rfl, hoA, hown⟩
  have oA := o9.trans hoA
  obtain ⟨A, cp, rfl, _⟩ := own_slice hown
  have HOWN := Lib.hid hown
  obtain ⟨N, hN⟩ : ∃ N, N = M.length := ⟨_, rfl⟩
  have HN := Lib.hid hN
  rw [← hN] at hlen
  clear hown hN
  go_wp2_with (go_at_call 45; with_reducible refine Grew.use (C1.out wA oA) (fun wC hoC => ?_))
  have bC := Blk.new wC 23 #[.int .i64 c.size, .int .i64 c.pages, .int .i64 c.batch]
  have oD := (oA.trans hoC).alloc (.cells #[.int .i64 c.size, .int .i64 c.pages, .int .i64 c.batch] 23)
  have HOWD := Lib.hid ((own_only HOWN.out hoC (by simp)).alloc (.cells #[.int .i64 c.size, .int .i64 c.pages, .int .i64 c.batch] 23))
  generalize wC.alloc (.cells #[.int .i64 c.size, .int .i64 c.pages, .int .i64 c.batch] 23) = wD at *
  generalize wC.heap.size = cb at *
  have HBC := Lib.hid bC
  have HOD := Lib.hid oD
  clear bC oD hoC hoA oA o9 o8 o7 o6 o5 o4 o3 o2 ho1 ho2 ho3 ho4 ho5 ho6 ho7 ho8 ho9 S1 S2 T1 T2 R1 R2 C1 C2 CR HOWN
  rw [← HN.out]
  go_loopw [7] (fun t wr => ∃ i : Nat, i ≤ N ∧ t = .int .i64 i ∧ Only [] wD wr) (fun t _ => N - (intOf t).toNat)
  case atStart => exact ⟨0, Nat.zero_le _, rfl, Only.refl _ _⟩
  case round =>
    obtain ⟨i, hi, rfl, ho⟩ := hrel
    by_cases hlt : i < N
    · have d1 : decide ((i : Int) < N) = true := decide_eq_true (by omega)
      have hiM : i < M.length := by rw [← HN.out]; exact hlt
      have HIM := Lib.hid hiM
      have HO := Lib.hid ho
      clear hiM ho
      go_wp2_with fail
      go_loopw [8] (fun t wr => ∃ k : Nat, (k : Int) ≤ ob ∧ t = .int .i64 k ∧ Only [] wD wr) (fun t _ => ob.toNat - (intOf t).toNat)
      case atStart => exact ⟨0, by omega, rfl, HO.out⟩
      case round =>
        obtain ⟨k, hk, rfl, ho⟩ := hrel
        have bC := HBC.out.only ho (by simp)
        have x0 := bC.cell_ 0 rfl
        have x1 := bC.cell_ 1 rfl
        have x2 := bC.cell_ 2 rfl
        have CO := Lib.hid (HOJ.out wr)
        by_cases hlk : (k : Int) < ob
        · have d2 : decide ((k : Int) < ob) = true := decide_eq_true hlk
          have HF := Lib.hid (fun W (h : Only [] wr W) => And.intro ((bC.only h (by simp)).cell_ 0 rfl) (ho.trans h))
          obtain ⟨g, cp', e1, _⟩ := own_form HOWD.out (by rw [← HN.out]; omega)
          injection e1 with e1 _ e3
          subst e1 e3
          have HR := Lib.hid (fun W (h : Only [] wD W) => own_spans (own_only HOWD.out h (by simp)) rfl HIM.out)
          obtain ⟨m1, m2⟩ := HOBJ.out k (by omega) hlk
          have gs := (HG.out.sp i HIM.out).1
          have s1 := gs.b1
          have s2 := gs.b2
          have s3 := gs.p1
          have KA := Lib.hid (fun W (h : Only [] wD W) => K1.out W (HOD.out.trans h) ((sAt M i).start * 256 + (k : Int) * c.size) (by unfold I64; omega))
          have KB := Lib.hid (fun W (h : Only [] wD W) => K2.out W (HOD.out.trans h) ((sAt M i).start * 256 + (k : Int) * c.size) (by unfold I64; omega))
          generalize (isTk M ((sAt M i).start * 256 + (k : Int) * c.size)).1 = b1 at *
          generalize (isTk M ((sAt M i).start * 256 + (k : Int) * c.size)).2 = b2 at *
          have s4 : (sAt M i).start ≤ 1024 := by omega
          generalize (sAt M i).start = st at *
          clear gs s2 s3
          go_wp2_with (go_at_call 20; with_reducible refine Grew.use CO.out (fun wE hoE => ?_); obtain ⟨z0, oE⟩ := HF.out wE hoE; have r0 := (HR.out wE oE).1)
          go_quiet (fail)
          go_wp2_with (first
            | (go_at_call 39; with_reducible refine Grew.use (KA.out _ (oE.drewN _)) (fun wF hoF => ?_); have oF := (oE.drewN _).trans hoF)
            | (go_at_call 39; with_reducible refine Grew.use (KB.out wF oF) (fun wG hoG => ?_); have oG := oF.trans hoG))
          go_roundw
          case rel => exact ⟨k + 1, by omega, by go_num, oG⟩
          case measure => simp [intOf]; omega
        · have d2 : decide ((k : Int) < ob) = false := decide_eq_false hlk
          have HO2 := Lib.hid ho
          clear ho
          go_wp2_with (go_at_call 20; with_reducible refine Grew.use CO.out (fun wE hoE => ?_))
          go_roundw
          case rel => exact ⟨i + 1, by omega, by go_num, HO2.out.trans hoE⟩
          case measure => simp [intOf]; omega
    · have d1 : decide ((i : Int) < N) = false := decide_eq_false (by omega)
      go_wp2_with fail
      go_ret
      exact ⟨rfl, HOD.out.trans ho⟩
end Go.Proofs.Ytlmjelcnldlagaa

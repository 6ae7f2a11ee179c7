/- CentralSwept, walked. -/
import Derived.Test.YtlmjelcnldlagaaZLZ
set_option linter.unusedVariables false
set_option linter.unusedSimpArgs false
namespace Go.Proofs.Ytlmjelcnldlagaa
open Go.RowKit

theorem runs_eq_start {a b : Int × Int} (h : a.1 ≠ b.1) : (a.1 == b.1) = false := beq_eq_false_iff_ne.2 h

set_option maxRecDepth 100000 in
set_option maxHeartbeats 8000000 in
theorem CentralSwept_walk (w : World) (cx cy cz : Int) (_ : I64 cx) (_ : I64 cy) (_ : I64 cz) (A : Option Addr) (n cp : Nat) (l : List Ac7) (hr : ReadsA w A n l) (hn : n ≤ 9223372036854775807) (B : Option Addr) (nb cb : Nat) (o : List Int) (hro : ReadsI w B nb o) (hio : ∀ j, j < nb → I64 (iAt o j)) (hcb : nb ≤ cb) (hnb : nb ≤ 9223372036854775807) :
    Grew Try.prog 3 #[.agg #[.int .i64 cx, .int .i64 cy, .int .i64 cz], .slice A n cp, .slice B nb cb] w (.bool true) := by
  have hlen := hr.1
  have o1 := (Only.refl [] w).alloc (.cells #[.int .i64 cx, .int .i64 cy, .int .i64 cz] 23)
  have CG := Lib.hid (great_any (w.alloc (.cells #[.int .i64 cx, .int .i64 cy, .int .i64 cz] 23)) A n cp l (hr.still o1) hn)
  have CM := Lib.hid (fun (h60 : ∀ j, j < n → (xAt l j).n ≤ 60) => lmadeOf_any (w.alloc (.cells #[.int .i64 cx, .int .i64 cy, .int .i64 cz] 23)) ⟨cx, cy, cz⟩ A n cp l (hr.still o1) hn h60)
  have HO1 := Lib.hid o1
  cases hg : greatOf l with
  | true =>
    rw [hg] at CG
    clear hr hlen hro hio
    go_enter Try.func3, Try.ntmps3
    go_wp2_with (first | (go_at_call 13; with_reducible refine Still.use CG.out ?_) | (go_at_call 14; with_reducible refine Grew.use (alive_any _) (fun w5 ho5 => ?_)))
    go_ret
    exact ⟨rfl, HO1.out.trans ho5⟩
  | false =>
    rw [hg] at CG
    have h60 : ∀ j, j < n → (xAt l j).n ≤ 60 := fun j hj => (greatOf_false hg).2 j (by rw [hlen]; exact hj)
    have CM0 := Lib.hid (CM.out h60)
    have HRO := Lib.hid hro
    have HIO := Lib.hid hio
    have HBO := Lib.hid (show 0 < nb → ∀ ad, B = some ad → ad.block < w.heap.size from fun h0 ad e => by
      obtain ⟨ad', e', hc⟩ := hro.2 h0
      rw [e] at e'
      injection e' with e'
      subst e'
      have := World.block_lt_of_cell? w _ (hc 0 h0)
      unfold Addr.add at this
      split at this <;> exact this)
    clear hr hlen hro hio hg h60 CM
    by_cases hnb60 : 60 < nb
    · have d0 : decide ((60 : Int) < (nb : Int)) = true := decide_eq_true (by omega)
      have d0' : decide (60 < nb) = true := decide_eq_true hnb60
      go_enter Try.func3, Try.ntmps3
      go_wp2_with (first | (go_at_call 13; with_reducible refine Still.use CG.out ?_) | (go_at_call 14; with_reducible refine Grew.use (alive_any _) (fun w5 ho5 => ?_)))
      go_ret
      exact ⟨rfl, HO1.out.trans ho5⟩
    have d0 : decide ((60 : Int) < (nb : Int)) = false := decide_eq_false (by omega)
    have d0' : decide (60 < nb) = false := decide_eq_false hnb60
    by_cases hok : (⟨cx, cy, cz⟩ : Cl).ok
    · have HOK := Lib.hid hok
      clear hok
      go_enter Try.func3, Try.ntmps3
      go_wp2_with (first | (go_at_call 13; with_reducible refine Still.use CG.out ?_))
      refine CM0.out.mono ?_
      rintro e w2 ⟨ho2, h1, _⟩
      obtain ⟨P, bl, rfl, hst, hbl⟩ := h1 HOK.out
      generalize acts ⟨cx, cy, cz⟩ [] l n = M at *
      have o2 := HO1.out.trans ho2
      have HST := Lib.hid hst
      have hbl' : ∀ b ∈ bl, w.heap.size ≤ b := fun b hb => Nat.le_trans HO1.out.size (hbl b hb)
      have HBL := Lib.hid hbl'
      have HG := Lib.hid hst.goodL
      have hlen := hst.goodL.len
      have CS := Lib.hid (lSpans_st hst)
      clear h1 hst hbl hbl' CM0 CG
      go_wp2_with fail
      refine CS.out.mono ?_
      rintro e w3 ⟨v1, rfl, ho3, hown1⟩
      have o3 := o2.trans ho3
      have hst3 := HST.out.still ho3
      have hl2 : ∀ b ∈ bl, b < w2.heap.size := HST.out.lt
      have HLT2 := Lib.hid hl2
      have CPU := Lib.hid (lPut_at hst3 B nb cb o (HRO.out.still o3) HIO.out (by omega) hcb (fun h0 ad e hb => by
        have a1 := HBO.out h0 ad e
        have a2 := HBL.out _ hb
        omega))
      have HV1 := Lib.hid hown1
      have HG2 := Lib.hid (show ∀ i : Nat, i ≤ o.length → badTo M o o.length = false → twiceTo M o o.length = false → GoodL ⟨cx, cy, cz⟩ (freeTo M o i) from fun i hi h1 h2 => (freeTo_tk HG.out i hi h1 h2).1)
      have HE0 := Lib.hid (show putE M o = 0 → badTo M o o.length = false ∧ twiceTo M o o.length = false from fun h => by
        unfold putE at h
        cases h1 : badTo M o o.length with
        | true => rw [h1] at h; cases h
        | false =>
          cases h2 : twiceTo M o o.length with
          | true => rw [h1, h2] at h; cases h
          | false => exact ⟨rfl, rfl⟩)
      clear hown1 hst3 hl2 CS
      go_wp2_with fail
      refine CPU.out.mono ?_
      rintro e w4 ⟨v2, rfl, ho4, hst4, hown2⟩
      have hown1 := own_only HV1.out ho4 (fun x hx hxb => by
        have a1 := own_base HV1.out x hx
        have a2 := HLT2.out x hxb
        omega)
      have o4 : Only [] w w4 := o3.then_ ho4 (fun b hb => .inr (HBL.out b hb))
      have hz3 := ho3.size
      have hz4 := ho4.size
      by_cases hE : putE M o = 0
      · have HEE := Lib.hid hE
        have HB := Lib.hid (HE0.out hE)
        rw [show putM M o = keptOf (freeTo M o o.length) by rw [putM, if_pos hE]] at hst4
        rw [show putR M o = zeroOf (freeTo M o o.length) by rw [putR, if_pos hE]] at hown2
        have hlike := freeTo_like M o o.length
        have hgF := HG2.out o.length (Nat.le_refl _) HB.out.1 HB.out.2
        have hbg := own_base hown2
        have hnv2 : ∀ x, v2.ownBlock = some x → x ∉ bl := fun x hx hxb => by
          have a1 := hbg x hx
          have a2 := HLT2.out x hxb
          omega
        have hnv1 : ∀ x, v1.ownBlock = some x → x ∉ bl := fun x hx hxb => by
          have a1 := own_base hown1 x hx
          have a2 := HLT2.out x hxb
          omega
        generalize freeTo M o o.length = F at *
        rw [HEE.out]
        obtain ⟨A1, c1, rfl, _⟩ := own_slice hown1
        obtain ⟨A2, c2, rfl, _⟩ := own_slice hown2
        have HS4 := Lib.hid hst4
        have CTK := Lib.hid (ltaken_any hst4)
        have CSP := Lib.hid (fun W (h : Only [] w4 W) => lSpans_st (HS4.out.still h))
        have HW1 := Lib.hid hown1
        have HW2 := Lib.hid hown2
        have HNV1' := Lib.hid hnv1
        have HNV2 := Lib.hid hnv2
        have hfl : F.length = M.length := hlike.1
        have HKL := Lib.hid (zk_len F F.length)
        have HKE := Lib.hid (keptTo_eq F)
        have hkl : (zeroOf F).length + (keptOf F).length = M.length := by rw [keptTo_eq, ← hfl]; exact zk_len F F.length
        have HLK := Lib.hid (fun j (hj : j < F.length) => And.intro (hlike.2 j hj).1 (hlike.2 j hj).2.2.1)
        have HSTT := Lib.hid hgF.starts
        have HZK := Lib.hid (zero_kept F)
        have HKM := Lib.hid (fun i (hi : i < (keptOf F).length) => kept_many hi)
        clear hst4 hown1 hown2 hnv1 hnv2 hlike hgF
        go_wp2_with fail
        refine CTK.out.mono ?_
        rintro e w6 ⟨v3, rfl, ho6, hown3⟩
        go_wp2_with fail
        refine (CSP.out w6 ho6).mono ?_
        rintro e w7 ⟨v4, rfl, ho7, hown4⟩
        obtain ⟨A3, c3, rfl, _⟩ := own_slice hown3
        obtain ⟨A4, c4, rfl, _⟩ := own_slice hown4
        have o67 := ho6.trans ho7
        have HW17 := Lib.hid (own_only HW1.out o67 (by simp))
        have HW27 := Lib.hid (own_only HW2.out o67 (by simp))
        have HW37 := Lib.hid (own_only hown3 ho7 (by simp))
        have HW47 := Lib.hid hown4
        have HS7 := Lib.hid (HS4.out.still o67)
        have hz67 := o67.size
        have hl4 : ∀ b ∈ bl, b < w4.heap.size := HS4.out.lt
        have HL4 := Lib.hid hl4
        obtain ⟨K, hK⟩ : ∃ K, K = (keptOf F).length := ⟨_, rfl⟩
        obtain ⟨Z, hZ⟩ : ∃ Z, Z = (zeroOf F).length := ⟨_, rfl⟩
        obtain ⟨N, hN⟩ : ∃ N, N = M.length := ⟨_, rfl⟩
        have HK := Lib.hid hK
        have HZ := Lib.hid hZ
        have HN := Lib.hid hN
        have hKN : Z + K = N := by rw [hK, hZ, hN]; exact hkl
        rw [← hN] at hlen
        rw [← hK, ← hZ, ← hN]
        have hz6 := ho6.size
        have hz7 := ho7.size
        clear hown3 hown4 hK hZ hN hkl hl4 CTK CSP HW1 HW2 ho6 ho7
        go_wp2_with fail
        go_loopw [13] (fun t wr => ∃ i : Nat, i ≤ K ∧ t = .int .i64 i ∧ Only [] w7 wr) (fun t _ => K - (intOf t).toNat)
        case atStart => exact ⟨0, Nat.zero_le _, rfl, Only.refl _ _⟩
        case round =>
          obtain ⟨i, hi, rfl, ho⟩ := hrel
          by_cases hlt : i < K
          · have e1 : decide ((i : Int) < K) = true := decide_eq_true (by omega)
            have hiK : i < (keptOf F).length := by rw [← HK.out]; exact hlt
            obtain ⟨g, cp', e2, _⟩ := own_form HW37.out (by omega)
            injection e2 with e2 _ e3
            subst e2 e3
            have r0 := own_int (own_only HW37.out ho (by simp)) hiK
            rw [takenTo_at _ _ _ hiK] at r0
            have e4 : ((sAt (keptOf F) i).many == 0) = false := beq_eq_false_iff_ne.2 (HKM.out i hiK)
            clear hiK
            generalize (sAt (keptOf F) i).many = mn at *
            go_wp2_with fail
            go_roundw
            case rel => exact ⟨i + 1, by omega, by go_num, ho⟩
            case measure => simp [intOf]; omega
          · have e : i = K := by omega
            subst e
            have e1 : decide ((i : Int) < i) = false := decide_eq_false (by omega)
            have CSW2 := Lib.hid (lSweep_at (HS7.out.still ho))
            have e5 : (((Z : Int) + (i : Int)) != (N : Int)) = false := by simp; omega
            have e5' : (((Z : Int) + (i : Int)) == (N : Int)) = true := by simp; omega
            have HO := Lib.hid ho
            have hzr := ho.size
            clear ho
            go_wp2_with fail
            refine CSW2.out.mono ?_
            rintro e w8 ⟨v5, rfl, hown5, ho8, _⟩
            rw [HZK.out] at hown5
            obtain ⟨A5, c5, rfl, _⟩ := own_slice hown5
            have H1 := Lib.hid (own_only (own_only HW17.out HO.out (by simp)) ho8 HNV1'.out)
            have H2 := Lib.hid (own_only (own_only HW27.out HO.out (by simp)) ho8 HNV2.out)
            have H4 := Lib.hid (own_only (own_only HW47.out HO.out (by simp)) ho8 (fun x hx hxb => by
              have a1 := own_base HW47.out x hx
              have a2 := HL4.out x hxb
              omega))
            have o8 : Only [] w w8 := ((o4.trans o67).trans HO.out).then_ ho8 (fun b hb => .inr (HBL.out b hb))
            clear hown5 ho8 CSW2
            go_wp2_with fail
            go_loopw [14, 15, 16] (fun a b t wr => ∃ j : Nat, j ≤ N ∧ a = .int .i64 ((zeroTo F j).length : Nat) ∧ b = .int .i64 ((keptTo F j).length : Nat) ∧ t = .int .i64 j ∧ Only [] w8 wr) (fun _ _ t _ => N - (intOf t).toNat)
            case atStart => exact ⟨0, Nat.zero_le _, rfl, rfl, rfl, Only.refl _ _⟩
            case round =>
              obtain ⟨j, hj, rfl, rfl, rfl, ho⟩ := hrel
              by_cases hlt2 : j < N
              · have e6 : decide ((j : Int) < N) = true := decide_eq_true (by omega)
                have hjF : j < F.length := by rw [hfl, ← HN.out]; exact hlt2
                obtain ⟨g1, cp1, e2, _⟩ := own_form H1.out (by rw [← HN.out]; omega)
                injection e2 with e2 _ e3
                subst e2 e3
                obtain ⟨y0, y1⟩ := own_spans (own_only H1.out ho (by simp)) rfl (show j < M.length by rw [← HN.out]; exact hlt2)
                obtain ⟨k1, k2⟩ := HLK.out j hjF
                rw [← k1] at y0
                rw [← k2] at y1
                have hzk := zk_len F j
                by_cases h0 : (sAt F j).many = 0
                · obtain ⟨z1, z2, z3, z4⟩ := next_zero hjF h0
                  have hzZ : (zeroTo F j).length < Z := by rw [HZ.out]; exact z1
                  obtain ⟨g2, cp2, e2, _⟩ := own_form H2.out (by rw [← HZ.out]; omega)
                  injection e2 with e2 _ e3
                  subst e2 e3
                  obtain ⟨x0, x1, _⟩ := own_runs (own_only H2.out ho (by simp)) rfl z1
                  rw [z2] at x0 x1
                  have HZ3 := Lib.hid z3
                  have HZ4 := Lib.hid z4
                  clear z1 z2 z3 z4 k1 k2 h0 hjF
                  generalize (zeroTo F j).length = zi at *
                  generalize (keptTo F j).length = ki at *
                  generalize (sAt F j).start = st at *
                  generalize (sAt F j).pages = pg at *
                  have e7 : decide ((zi : Int) < Z) = true := decide_eq_true (by omega)
                  go_wp2_with fail
                  go_quiet (fail)
                  go_wp2_with fail
                  go_roundw
                  case rel => exact ⟨j + 1, by omega, by rw [HZ3.out]; go_num, by rw [HZ4.out], by go_num, ho.drewN _⟩
                  case measure => simp [intOf]; omega
                · obtain ⟨z1, z2, z3, z4, z5⟩ := next_kept hjF h0 HSTT.out
                  have hkK : (keptTo F j).length < i := by rw [HK.out, keptTo_eq]; exact z1
                  obtain ⟨g4, cp4, e2, _⟩ := own_form H4.out (by rw [← HK.out]; omega)
                  injection e2 with e2 _ e3
                  subst e2 e3
                  obtain ⟨u0, u1⟩ := own_spans (own_only H4.out ho (by simp)) rfl (show (keptTo F j).length < (keptOf F).length by rw [← HK.out]; exact hkK)
                  rw [HKE.out, z2] at u0 u1
                  have HZ3 := Lib.hid z3
                  have HZ4 := Lib.hid z4
                  have e8 : decide (((keptTo F j).length : Int) < i) = true := decide_eq_true (by omega)
                  by_cases hzl : (zeroTo F j).length < Z
                  · have hne := z5 (by rw [← HZ.out]; exact hzl)
                    obtain ⟨g2, cp2, e2, _⟩ := own_form H2.out (by rw [← HZ.out]; omega)
                    injection e2 with e2 _ e3
                    subst e2 e3
                    obtain ⟨x0, x1, _⟩ := own_runs (own_only H2.out ho (by simp)) rfl (show (zeroTo F j).length < (zeroOf F).length by rw [← HZ.out]; exact hzl)
                    have e7 : decide (((zeroTo F j).length : Int) < Z) = true := decide_eq_true (by omega)
                    clear z1 z2 z3 z4 z5 k1 k2 h0 hjF
                    change wr.cell? ⟨g2, (zeroTo F j).length * 2, none⟩ = some (.int .i64 (rAt (zeroTo F F.length) (zeroTo F j).length).1) at x0
                    change wr.cell? ⟨g2, (zeroTo F j).length * 2 + 1, none⟩ = some (.int .i64 (rAt (zeroTo F F.length) (zeroTo F j).length).2) at x1
                    generalize (rAt (zeroTo F F.length) (zeroTo F j).length).1 = r1 at *
                    generalize (rAt (zeroTo F F.length) (zeroTo F j).length).2 = r2 at *
                    generalize (zeroTo F j).length = zi at *
                    generalize (keptTo F j).length = ki at *
                    generalize (sAt F j).start = st at *
                    generalize (sAt F j).pages = pg at *
                    have e9 : (r1 == st) = false := beq_eq_false_iff_ne.2 hne
                    clear hne
                    go_wp2_with fail
                    go_quiet (fail)
                    go_wp2_with fail
                    go_quiet (fail)
                    go_wp2_with fail
                    go_roundw
                    case rel => exact ⟨j + 1, by omega, by rw [HZ4.out], by rw [HZ3.out]; go_num, by go_num, ho.drewN _⟩
                    case measure => simp [intOf]; omega
                  · have e7 : decide (((zeroTo F j).length : Int) < Z) = false := decide_eq_false (by omega)
                    clear z1 z2 z3 z4 z5 k1 k2 h0 hjF
                    generalize (zeroTo F j).length = zi at *
                    generalize (keptTo F j).length = ki at *
                    generalize (sAt F j).start = st at *
                    generalize (sAt F j).pages = pg at *
                    go_wp2_with fail
                    go_quiet (fail)
                    go_wp2_with fail
                    go_quiet (fail)
                    go_wp2_with fail
                    go_roundw
                    case rel => exact ⟨j + 1, by omega, by rw [HZ4.out], by rw [HZ3.out]; go_num, by go_num, ho.drewN _⟩
                    case measure => simp [intOf]; omega
              · have e : j = N := by omega
                subst e
                have e6 : decide ((j : Int) < j) = false := decide_eq_false (by omega)
                go_wp2_with (first | (go_at_call 14; with_reducible refine Grew.use (alive_any _) (fun w9 ho9 => ?_)))
                go_ret
                exact ⟨rfl, (o8.trans ho).trans ho9⟩
      · have hE8 : (putE M o == 0) = false := beq_eq_false_iff_ne.2 hE
        rw [show putM M o = M by rw [putM, if_neg hE]] at hst4
        rw [show putR M o = [] by rw [putR, if_neg hE]] at hown2
        have hnv1 : ∀ x, v1.ownBlock = some x → x ∉ bl := fun x hx hxb => by
          have a1 := own_base hown1 x hx
          have a2 := HLT2.out x hxb
          omega
        have CSW := Lib.hid (lSweep_at hst4)
        have HV14 := Lib.hid hown1
        have HNV1 := Lib.hid hnv1
        obtain ⟨A2, c2, rfl, _⟩ := own_slice hown2
        generalize putE M o = E at *
        clear hE hst4 hown1 hown2 hnv1 HE0 HG2 CPU HV1
        go_wp2_with fail
        refine CSW.out.mono ?_
        rintro e w5 ⟨v2, rfl, hown2, ho5, hst4⟩
        have hown1 := own_only HV14.out ho5 HNV1.out
        have o5 : Only [] w w5 := o4.then_ ho5 (fun b hb => .inr (HBL.out b hb))
        have hnv2 : ∀ x, v2.ownBlock = some x → x ∉ bl := fun x hx hxb => by
          have a1 := own_base hown2 x hx
          have a2 := HLT2.out x hxb
          omega
        have hnv1 := HNV1.out
        obtain ⟨F, hF⟩ : ∃ F, F = M := ⟨_, rfl⟩
        rw [← hF] at hst4 hown2
        have hlike : Like F M := by rw [hF]; exact Like.refl M
        have hgF : GoodL ⟨cx, cy, cz⟩ F := by rw [hF]; exact HG.out
        clear hF
        obtain ⟨A1, c1, rfl, _⟩ := own_slice hown1
        obtain ⟨A2, c2, rfl, _⟩ := own_slice hown2
        have HS4 := Lib.hid hst4
        have CTK := Lib.hid (ltaken_any hst4)
        have CSP := Lib.hid (fun W (h : Only [] w5 W) => lSpans_st (HS4.out.still h))
        have HW1 := Lib.hid hown1
        have HW2 := Lib.hid hown2
        have HNV1' := Lib.hid hnv1
        have HNV2 := Lib.hid hnv2
        have hfl : F.length = M.length := hlike.1
        have HKL := Lib.hid (zk_len F F.length)
        have HKE := Lib.hid (keptTo_eq F)
        have hkl : (zeroOf F).length + (keptOf F).length = M.length := by rw [keptTo_eq, ← hfl]; exact zk_len F F.length
        have HLK := Lib.hid (fun j (hj : j < F.length) => And.intro (hlike.2 j hj).1 (hlike.2 j hj).2.2.1)
        have HSTT := Lib.hid hgF.starts
        have HZK := Lib.hid (zero_kept F)
        have HKM := Lib.hid (fun i (hi : i < (keptOf F).length) => kept_many hi)
        clear hst4 hown1 hown2 hnv1 hnv2 hlike hgF
        go_wp2_with fail
        refine CTK.out.mono ?_
        rintro e w6 ⟨v3, rfl, ho6, hown3⟩
        go_wp2_with fail
        refine (CSP.out w6 ho6).mono ?_
        rintro e w7 ⟨v4, rfl, ho7, hown4⟩
        obtain ⟨A3, c3, rfl, _⟩ := own_slice hown3
        obtain ⟨A4, c4, rfl, _⟩ := own_slice hown4
        have o67 := ho6.trans ho7
        have HW17 := Lib.hid (own_only HW1.out o67 (by simp))
        have HW27 := Lib.hid (own_only HW2.out o67 (by simp))
        have HW37 := Lib.hid (own_only hown3 ho7 (by simp))
        have HW47 := Lib.hid hown4
        have HS7 := Lib.hid (HS4.out.still o67)
        have hz67 := o67.size
        have hl4 : ∀ b ∈ bl, b < w5.heap.size := HS4.out.lt
        have HL4 := Lib.hid hl4
        obtain ⟨K, hK⟩ : ∃ K, K = (keptOf F).length := ⟨_, rfl⟩
        obtain ⟨Z, hZ⟩ : ∃ Z, Z = (zeroOf F).length := ⟨_, rfl⟩
        obtain ⟨N, hN⟩ : ∃ N, N = M.length := ⟨_, rfl⟩
        have HK := Lib.hid hK
        have HZ := Lib.hid hZ
        have HN := Lib.hid hN
        have hKN : Z + K = N := by rw [hK, hZ, hN]; exact hkl
        rw [← hN] at hlen
        rw [← hK, ← hZ, ← hN]
        have hz6 := ho6.size
        have hz7 := ho7.size
        clear hown3 hown4 hK hZ hN hkl hl4 CTK CSP HW1 HW2 ho6 ho7
        go_wp2_with fail
        go_loopw [13] (fun t wr => ∃ i : Nat, i ≤ K ∧ t = .int .i64 i ∧ Only [] w7 wr) (fun t _ => K - (intOf t).toNat)
        case atStart => exact ⟨0, Nat.zero_le _, rfl, Only.refl _ _⟩
        case round =>
          obtain ⟨i, hi, rfl, ho⟩ := hrel
          by_cases hlt : i < K
          · have e1 : decide ((i : Int) < K) = true := decide_eq_true (by omega)
            have hiK : i < (keptOf F).length := by rw [← HK.out]; exact hlt
            obtain ⟨g, cp', e2, _⟩ := own_form HW37.out (by omega)
            injection e2 with e2 _ e3
            subst e2 e3
            have r0 := own_int (own_only HW37.out ho (by simp)) hiK
            rw [takenTo_at _ _ _ hiK] at r0
            have e4 : ((sAt (keptOf F) i).many == 0) = false := beq_eq_false_iff_ne.2 (HKM.out i hiK)
            clear hiK
            generalize (sAt (keptOf F) i).many = mn at *
            go_wp2_with fail
            go_roundw
            case rel => exact ⟨i + 1, by omega, by go_num, ho⟩
            case measure => simp [intOf]; omega
          · have e : i = K := by omega
            subst e
            have e1 : decide ((i : Int) < i) = false := decide_eq_false (by omega)
            have CSW2 := Lib.hid (lSweep_at (HS7.out.still ho))
            have e5 : (((Z : Int) + (i : Int)) != (N : Int)) = false := by simp; omega
            have e5' : (((Z : Int) + (i : Int)) == (N : Int)) = true := by simp; omega
            have HO := Lib.hid ho
            have hzr := ho.size
            clear ho
            go_wp2_with fail
            refine CSW2.out.mono ?_
            rintro e w8 ⟨v5, rfl, hown5, ho8, _⟩
            rw [HZK.out] at hown5
            obtain ⟨A5, c5, rfl, _⟩ := own_slice hown5
            have H1 := Lib.hid (own_only (own_only HW17.out HO.out (by simp)) ho8 HNV1'.out)
            have H2 := Lib.hid (own_only (own_only HW27.out HO.out (by simp)) ho8 HNV2.out)
            have H4 := Lib.hid (own_only (own_only HW47.out HO.out (by simp)) ho8 (fun x hx hxb => by
              have a1 := own_base HW47.out x hx
              have a2 := HL4.out x hxb
              omega))
            have o8 : Only [] w w8 := ((o5.trans o67).trans HO.out).then_ ho8 (fun b hb => .inr (HBL.out b hb))
            clear hown5 ho8 CSW2
            go_wp2_with fail
            go_loopw [14, 15, 16] (fun a b t wr => ∃ j : Nat, j ≤ N ∧ a = .int .i64 ((zeroTo F j).length : Nat) ∧ b = .int .i64 ((keptTo F j).length : Nat) ∧ t = .int .i64 j ∧ Only [] w8 wr) (fun _ _ t _ => N - (intOf t).toNat)
            case atStart => exact ⟨0, Nat.zero_le _, rfl, rfl, rfl, Only.refl _ _⟩
            case round =>
              obtain ⟨j, hj, rfl, rfl, rfl, ho⟩ := hrel
              by_cases hlt2 : j < N
              · have e6 : decide ((j : Int) < N) = true := decide_eq_true (by omega)
                have hjF : j < F.length := by rw [hfl, ← HN.out]; exact hlt2
                obtain ⟨g1, cp1, e2, _⟩ := own_form H1.out (by rw [← HN.out]; omega)
                injection e2 with e2 _ e3
                subst e2 e3
                obtain ⟨y0, y1⟩ := own_spans (own_only H1.out ho (by simp)) rfl (show j < M.length by rw [← HN.out]; exact hlt2)
                obtain ⟨k1, k2⟩ := HLK.out j hjF
                rw [← k1] at y0
                rw [← k2] at y1
                have hzk := zk_len F j
                by_cases h0 : (sAt F j).many = 0
                · obtain ⟨z1, z2, z3, z4⟩ := next_zero hjF h0
                  have hzZ : (zeroTo F j).length < Z := by rw [HZ.out]; exact z1
                  obtain ⟨g2, cp2, e2, _⟩ := own_form H2.out (by rw [← HZ.out]; omega)
                  injection e2 with e2 _ e3
                  subst e2 e3
                  obtain ⟨x0, x1, _⟩ := own_runs (own_only H2.out ho (by simp)) rfl z1
                  rw [z2] at x0 x1
                  have HZ3 := Lib.hid z3
                  have HZ4 := Lib.hid z4
                  clear z1 z2 z3 z4 k1 k2 h0 hjF
                  generalize (zeroTo F j).length = zi at *
                  generalize (keptTo F j).length = ki at *
                  generalize (sAt F j).start = st at *
                  generalize (sAt F j).pages = pg at *
                  have e7 : decide ((zi : Int) < Z) = true := decide_eq_true (by omega)
                  go_wp2_with fail
                  go_quiet (fail)
                  go_wp2_with fail
                  go_roundw
                  case rel => exact ⟨j + 1, by omega, by rw [HZ3.out]; go_num, by rw [HZ4.out], by go_num, ho.drewN _⟩
                  case measure => simp [intOf]; omega
                · obtain ⟨z1, z2, z3, z4, z5⟩ := next_kept hjF h0 HSTT.out
                  have hkK : (keptTo F j).length < i := by rw [HK.out, keptTo_eq]; exact z1
                  obtain ⟨g4, cp4, e2, _⟩ := own_form H4.out (by rw [← HK.out]; omega)
                  injection e2 with e2 _ e3
                  subst e2 e3
                  obtain ⟨u0, u1⟩ := own_spans (own_only H4.out ho (by simp)) rfl (show (keptTo F j).length < (keptOf F).length by rw [← HK.out]; exact hkK)
                  rw [HKE.out, z2] at u0 u1
                  have HZ3 := Lib.hid z3
                  have HZ4 := Lib.hid z4
                  have e8 : decide (((keptTo F j).length : Int) < i) = true := decide_eq_true (by omega)
                  by_cases hzl : (zeroTo F j).length < Z
                  · have hne := z5 (by rw [← HZ.out]; exact hzl)
                    obtain ⟨g2, cp2, e2, _⟩ := own_form H2.out (by rw [← HZ.out]; omega)
                    injection e2 with e2 _ e3
                    subst e2 e3
                    obtain ⟨x0, x1, _⟩ := own_runs (own_only H2.out ho (by simp)) rfl (show (zeroTo F j).length < (zeroOf F).length by rw [← HZ.out]; exact hzl)
                    have e7 : decide (((zeroTo F j).length : Int) < Z) = true := decide_eq_true (by omega)
                    clear z1 z2 z3 z4 z5 k1 k2 h0 hjF
                    change wr.cell? ⟨g2, (zeroTo F j).length * 2, none⟩ = some (.int .i64 (rAt (zeroTo F F.length) (zeroTo F j).length).1) at x0
                    change wr.cell? ⟨g2, (zeroTo F j).length * 2 + 1, none⟩ = some (.int .i64 (rAt (zeroTo F F.length) (zeroTo F j).length).2) at x1
                    generalize (rAt (zeroTo F F.length) (zeroTo F j).length).1 = r1 at *
                    generalize (rAt (zeroTo F F.length) (zeroTo F j).length).2 = r2 at *
                    generalize (zeroTo F j).length = zi at *
                    generalize (keptTo F j).length = ki at *
                    generalize (sAt F j).start = st at *
                    generalize (sAt F j).pages = pg at *
                    have e9 : (r1 == st) = false := beq_eq_false_iff_ne.2 hne
                    clear hne
                    go_wp2_with fail
                    go_quiet (fail)
                    go_wp2_with fail
                    go_quiet (fail)
                    go_wp2_with fail
                    go_roundw
                    case rel => exact ⟨j + 1, by omega, by rw [HZ4.out], by rw [HZ3.out]; go_num, by go_num, ho.drewN _⟩
                    case measure => simp [intOf]; omega
                  · have e7 : decide (((zeroTo F j).length : Int) < Z) = false := decide_eq_false (by omega)
                    clear z1 z2 z3 z4 z5 k1 k2 h0 hjF
                    generalize (zeroTo F j).length = zi at *
                    generalize (keptTo F j).length = ki at *
                    generalize (sAt F j).start = st at *
                    generalize (sAt F j).pages = pg at *
                    go_wp2_with fail
                    go_quiet (fail)
                    go_wp2_with fail
                    go_quiet (fail)
                    go_wp2_with fail
                    go_roundw
                    case rel => exact ⟨j + 1, by omega, by rw [HZ4.out], by rw [HZ3.out]; go_num, by go_num, ho.drewN _⟩
                    case measure => simp [intOf]; omega
              · have e : j = N := by omega
                subst e
                have e6 : decide ((j : Int) < j) = false := decide_eq_false (by omega)
                go_wp2_with (first | (go_at_call 14; with_reducible refine Grew.use (alive_any _) (fun w9 ho9 => ?_)))
                go_ret
                exact ⟨rfl, (o8.trans ho).trans ho9⟩
    · have HOK := Lib.hid hok
      clear hok
      go_enter Try.func3, Try.ntmps3
      go_wp2_with (first | (go_at_call 13; with_reducible refine Still.use CG.out ?_))
      refine CM0.out.mono ?_
      rintro e w2 ⟨ho2, _, h1⟩
      rw [h1 HOK.out]
      clear h1
      go_wp2_with (first | (go_at_call 14; with_reducible refine Grew.use (alive_any _) (fun w5 ho5 => ?_)))
      go_ret
      exact ⟨rfl, (HO1.out.trans ho2).trans ho5⟩
end Go.Proofs.Ytlmjelcnldlagaa

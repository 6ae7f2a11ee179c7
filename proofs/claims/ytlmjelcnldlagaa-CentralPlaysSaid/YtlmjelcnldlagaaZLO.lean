/- Put of the list, walked. -/
import Derived.Test.YtlmjelcnldlagaaPC
set_option linter.unusedVariables false
set_option linter.unusedSimpArgs false
namespace Go.Proofs.Ytlmjelcnldlagaa
open Go.RowKit

theorem ReadsI.pre {w : World} {A : Option Addr} {n : Nat} {l : List Int} (h : ReadsI w A n l) {k : Nat} (hk : k ≤ n) : ReadsI w A k (l.take k) := by
  refine ⟨by rw [List.length_take, h.1]; omega, fun h0 => ?_⟩
  obtain ⟨ad, h1, h2⟩ := h.2 (by omega)
  refine ⟨ad, h1, fun j hj => ?_⟩
  rw [h2 j (by omega)]
  simp [List.getD_eq_getElem?_getD, List.getElem?_take, hj]
theorem contains_any (w : World) (A : Option Addr) (n cap : Nat) (l : List Int) (v : Int) (h : ReadsI w A n l) (hn : n ≤ 4611686018427387904) : Still Try.prog 40 #[.slice A n cap, .int .i64 v] w (.bool (decide (0 ≤ idxOf l v))) := by
  have C := Lib.hid (sindex_any w A n cap l v h hn)
  clear h
  generalize idxOf l v = i at *
  by_cases hi : 0 ≤ i
  · have d1 : decide (0 ≤ i) = true := decide_eq_true hi
    clear hi
    go_enter Try.func40, Try.ntmps40
    go_wp2_with (go_at_call 70; with_reducible refine Still.use C.out ?_)
    go_ret
    exact ⟨by rw [d1]; rfl, rfl⟩
  · have d1 : decide (0 ≤ i) = false := decide_eq_false hi
    clear hi
    go_enter Try.func40, Try.ntmps40
    go_wp2_with (go_at_call 70; with_reducible refine Still.use C.out ?_)
    go_ret
    exact ⟨by rw [d1]; rfl, rfl⟩

theorem lIsTaken_st {w : World} {P : Nat} {bl : List Nat} {c : Cl} {M : List Sp} (h : ListSt w P bl c M) (a : Int) (ha : I64 a) :
    Grew Try.prog 39 #[.pointer (some ⟨P, 0, none⟩), .int .i64 a] w (.tuple #[.bool (isTk M a).1, .int .i64 (isTk M a).2]) := by
  obtain ⟨⟨A, L, h1, rfl, h3⟩, h4⟩ := h
  exact lIsTaken_at h1 a ha

/-- One object of the second loop. -/
theorem freeOne_of {M : List Sp} {a : Int} {j : Nat} (h : ofI M a = some j) : freeOne M a = M.set j ((sAt M j).free a).2 := by unfold freeOne; rw [h]

theorem badTo_err {M : List Sp} {o : List Int} {n k : Nat} (hk : k < n) (h : (isTk M (iAt o k)).2 ≠ 0) : badTo M o n = true := by
  induction n with
  | zero => omega
  | succ n ih =>
    rw [badTo]
    by_cases e : k = n
    · subst e
      rw [show ((isTk M (iAt o k)).2 != 0) = true from bne_iff_ne.2 h, Bool.or_true]
    · rw [ih (by omega)]; rfl

set_option maxRecDepth 100000 in
set_option maxHeartbeats 8000000 in
theorem lPut_at {w : World} {P : Nat} {bl : List Nat} {c : Cl} {M : List Sp} (h : ListSt w P bl c M) (B : Option Addr) (n cap : Nat) (o : List Int) (ho : ReadsI w B n o) (hi : ∀ j, j < n → I64 (iAt o j)) (hn : n ≤ 1000000) (hcap : n ≤ cap) (hB : 0 < n → ∀ ad, B = some ad → ad.block ∉ bl) :
    Calls Try.prog 17 #[.pointer (some ⟨P, 0, none⟩), .slice B n cap] w fun e w' => ∃ v, e = .returned (.tuple #[v, .int .i64 (putE M o)]) ∧ Only bl w w' ∧ ListSt w' P bl c (putM M o) ∧ w'.ownsRow w.heap.size 37 2 v (putR M o).length (cellsR (putR M o)) := by
  have CM := Lib.hid (lmade_st h)
  have HS := Lib.hid h
  have HG := Lib.hid h.goodL
  have HR := Lib.hid ho
  have HI := Lib.hid hi
  have HB := Lib.hid hB
  have hlen := ho.1
  have HLEN := Lib.hid ho.1
  clear h ho hi hB hlen
  go_enter Try.func17, Try.ntmps17
  go_wp2_with (first | (go_at_call 37; with_reducible refine Still.use CM.out ?_))
  go_loopw [6, 19] (fun u t wr => ∃ k : Nat, k ≤ n ∧ u = .bool (twiceTo M o k) ∧ t = .int .i64 k ∧ Only [] w wr ∧ badTo M o k = false) (fun _ t _ => n - (intOf t).toNat)
  case atStart => exact ⟨0, Nat.zero_le _, rfl, rfl, Only.refl _ _, rfl⟩
  case round =>
    obtain ⟨k, hk, rfl, rfl, hoW, hbad⟩ := hrel
    have HBAD := Lib.hid hbad
    clear hbad
    by_cases hlt : k < n
    · have d1 : decide ((k : Int) < n) = true := decide_eq_true (by omega)
      have hrd := HR.out.only hoW (by simp)
      obtain ⟨ad, rfl, hc⟩ := hrd.2 (by omega)
      have c0 := hc k hlt
      have CT := Lib.hid (lIsTaken_st (HS.out.still hoW) (iAt o k) (HI.out k hlt))
      have hc8 := isTk_cases HG.out (iAt o k)
      have HC8 := Lib.hid (fun (h : (isTk M (iAt o k)).2 ≠ 0) => badTo_err (n := n) hlt h)
      have HBS : Hid (badTo M o (k + 1) = (badTo M o k || (isTk M (iAt o k)).2 != 0)) := rfl
      have HTS : Hid (twiceTo M o (k + 1) = ((twiceTo M o k || !(isTk M (iAt o k)).1) || decide (0 ≤ idxOf (o.take k) (iAt o k)))) := rfl
      have HCN := Lib.hid (fun w1 (h1 : Only [] w w1) => contains_any w1 (some ad) k cap (o.take k) (iAt o k) ((HR.out.only h1 (by simp)).pre (by omega)) (by omega))
      have hkc : (k : Int) ≤ (cap : Int) := by omega
      change wr.cell? (ad.add k) = some (.int .i64 (iAt o k)) at c0
      clear hc hrd
      generalize iAt o k = x at *
      generalize (isTk M x).1 = b1 at *
      generalize (isTk M x).2 = b2 at *
      generalize decide (0 ≤ idxOf (o.take k) x) = b3 at *
      generalize twiceTo M o k = tw at *
      by_cases h0 : b2 = 0
      · subst h0
        have HB2 : Hid (badTo M o (k + 1) = false) := by show _ = _; rw [HBS.out, HBAD.out]; rfl
        cases tw with
        | true =>
          go_wp2_with (first | (go_at_call 39; with_reducible refine Grew.use CT.out (fun w1 ho1 => ?_)))
          go_roundw
          case rel => exact ⟨k + 1, by omega, by rw [HTS.out] <;> rfl, by go_num, hoW.trans ho1, HB2.out⟩
          case measure => simp [intOf]; omega
        | false =>
          cases b1 with
          | false =>
            go_wp2_with (first | (go_at_call 39; with_reducible refine Grew.use CT.out (fun w1 ho1 => ?_)))
            go_roundw
            case rel => exact ⟨k + 1, by omega, by rw [HTS.out] <;> rfl, by go_num, hoW.trans ho1, HB2.out⟩
            case measure => simp [intOf]; omega
          | true =>
            go_wp2_with (first | (go_at_call 39; with_reducible refine Grew.use CT.out (fun w1 ho1 => ?_)) | (go_at_call 40; with_reducible refine Still.use (HCN.out _ (hoW.trans ho1)) ?_))
            go_roundw
            case rel => exact ⟨k + 1, by omega, by rw [HTS.out] <;> rfl, by go_num, hoW.trans ho1, HB2.out⟩
            case measure => simp [intOf]; omega
      · have h8 : b2 = 8 := by
          rcases hc8 with h | h
          · exact absurd h h0
          · exact h
        subst h8
        have E1 : Hid (putE M o = 8) := by show _ = _; rw [putE, HLEN.out, HC8.out (by decide)]; rfl
        clear h0 hc8 HC8 HBS
        go_wp2_with (go_at_call 39; with_reducible refine Grew.use CT.out (fun w1 ho1 => ?_))
        go_ret2
        have e2 : putM M o = M := by rw [putM, E1.out, if_neg (by decide)]
        have e3 : putR M o = [] := by rw [putR, E1.out, if_neg (by decide)]
        exact ⟨_, by rw [E1.out]; rfl, (hoW.trans ho1).of_nil, by rw [e2]; exact HS.out.still (hoW.trans ho1), by rw [e3]; exact World.ownsRow_nil _ _ _ _⟩
    · have e : k = n := by omega
      subst e
      have d1 : decide ((k : Int) < k) = false := decide_eq_false (by omega)
      cases htw : twiceTo M o k with
      | true =>
        have E1 : Hid (putE M o = 9) := by show _ = _; rw [putE, HLEN.out, HBAD.out, htw]; rfl
        clear htw
        go_wp2_with fail
        go_ret2
        have e2 : putM M o = M := by rw [putM, E1.out, if_neg (by decide)]
        have e3 : putR M o = [] := by rw [putR, E1.out, if_neg (by decide)]
        exact ⟨_, by rw [E1.out]; rfl, hoW.of_nil, by rw [e2]; exact HS.out.still hoW, by rw [e3]; exact World.ownsRow_nil _ _ _ _⟩
      | false =>
        have E1 : Hid (putE M o = 0) := by show _ = _; rw [putE, HLEN.out, HBAD.out, htw]; rfl
        have HTK := Lib.hid (fun i (hi : i ≤ k) => freeTo_tk HG.out (o := o) i (by rw [HLEN.out]; exact hi) (by rw [HLEN.out]; exact HBAD.out) (by rw [HLEN.out]; exact htw))
        have hW0 := HS.out.still hoW
        have HW0 := Lib.hid hW0
        clear htw hW0
        go_wp2_with fail
        have HKN : Hid (o.length = k) := HLEN.out
        go_loopw [49] (fun t wr => ∃ i : Nat, i ≤ k ∧ t = .int .i64 i ∧ Only bl w wr ∧ ListSt wr P bl c (freeTo M o i)) (fun t _ => k - (intOf t).toNat)
        case atStart => exact ⟨0, Nat.zero_le _, rfl, hoW.of_nil, HW0.out⟩
        case round =>
          obtain ⟨i, hi, rfl, ho2, hst⟩ := hrel
          by_cases hlt2 : i < k
          · have d2 : decide ((i : Int) < k) = true := decide_eq_true (by omega)
            have hrd := HR.out.only ho2 (fun ad e => HB.out (by omega) ad e)
            obtain ⟨ad, rfl, hc⟩ := hrd.2 (by omega)
            have c0 := hc i hlt2
            change wr.cell? (ad.add i) = some (.int .i64 (iAt o i)) at c0
            have htk := (HTK.out i (by omega)).2 i (Nat.le_refl _) (by rw [HKN.out]; exact hlt2)
            have HX := Lib.hid (HI.out i hlt2)
            have HFS : Hid (freeTo M o (i + 1) = freeOne (freeTo M o i) (iAt o i)) := rfl
            obtain ⟨⟨A, L, hA, hM, hIn⟩, hltb⟩ := hst
            rw [← hM] at htk HFS
            obtain ⟨j, j1, j2, j3, j4⟩ := isTk_yes htk
            rw [spans_len] at j2
            rw [sAt_spans] at j3 j4
            have HF := Lib.hid (freeOne_of j1)
            rw [sAt_spans, Sp.free_ok j3 j4] at HF
            have CO := Lib.hid (of_at hA (iAt o i) HX.out)
            have HA := Lib.hid hA
            have HIN := Lib.hid hIn
            have HLTB := Lib.hid hltb
            have HJ := Lib.hid j1
            have HJ2 := Lib.hid j2
            have HFO := Lib.hid (Sp.free_ok j3 j4)
            have HJ4 := Lib.hid j4
            generalize iAt o i = x at *
            clear hM hc hrd htk hA hIn hltb j1 j2 j3 j4
            go_wp2_with fail
            refine CO.out.mono ?_
            rintro e w2 ⟨ho3, ⟨j', g, h1, h2, h3, rfl⟩ | ⟨h1, rfl⟩⟩
            · obtain rfl : j' = j := by
                rw [HJ.out] at h1
                injection h1 with h1
                exact h1.symm
              have hr := HA.out.still ho3
              obtain ⟨g', cp', rfl⟩ := hr.form (by omega)
              obtain rfl : g' = g := by injection h3
              obtain ⟨q0, q1, q2, qf⟩ := own_ents hr.row rfl h2
              have hsp := (hr.get h2).1
              obtain ⟨m1, m2⟩ := hsp.good.many
              have m3 := hsp.good.len
              have CP := Lib.hid (Put_at hsp x HX.out.1 HX.out.2)
              rw [HFO.out] at CP
              have hneB := hr.ne _ (eAt_mem h2)
              have gne : g' ∉ [(eAt L j').p, (eAt L j').q] := by
                simp
                exact ⟨fun e => hneB.2.2.1 (by rw [e]; rfl), fun e => hneB.2.2.2 (by rw [e]; rfl)⟩
              have HR2 := Lib.hid hr
              have HMANY : Hid (((eAt L j').s.put ((eAt L j').s.obj x).1.toNat 0).many = (eAt L j').s.many - 1) := by
                show (eAt L j').s.many + (0 - (eAt L j').s.st.getD ((eAt L j').s.obj x).1.toNat 0) = _
                rw [HJ4.out]
                omega
              have HGNE := Lib.hid gne
              have HQF := Lib.hid qf
              have HQ0 := Lib.hid q0
              clear h1 h3 hr hsp hneB gne qf
              go_wp2_with fail
              refine CP.out.mono ?_
              rintro e w3 ⟨rfl, hsp3, ho4⟩
              have y0 := (ho4.cell (World.block_lt_of_cell? w2 _ HQ0.out) HGNE.out).trans HQ0.out
              have yf := (ho4.frozen (World.block_lt_of_cell? w2 _ HQ0.out) HGNE.out).trans (HQF.out (j' * 3))
              have hstp := HR2.out.step rfl HJ2.out hsp3 ho4 rfl rfl rfl rfl
              rw [HMANY.out] at hstp
              have HSTP := Lib.hid hstp
              have HO4 := Lib.hid ho4
              clear hstp hsp3 q0 q1 q2 ho4
              generalize hmb : (eAt L j').s.many = mb at *
              go_wp2_with fail
              go_roundw
              case rel =>
                have hin := HIN.out.e _ (eAt_mem HJ2.out)
                have hoF : Only bl w (w3.setCell ⟨g', j' * 3, none⟩ (.int .i64 (mb - 1))) := ((ho2.trans ho3.of_nil).trans (HO4.out.mono (fun y hy => by
                  simp at hy
                  rcases hy with rfl | rfl
                  · exact hin.1
                  · exact hin.2))).setCell (.inl (HIN.out.a g' rfl)) _
                refine ⟨i + 1, by omega, by go_num, hoF, ?_⟩
                rw [HFS.out, HF.out]
                refine ListSt.set HJ2.out HSTP.out HIN.out (fun y hy => ?_)
                have a1 := HLTB.out y hy
                have a2 := ho3.size
                have a3 := HO4.out.size
                simp
                omega
              case measure => simp [intOf]; omega
            · rw [HJ.out] at h1
              cases h1
          · have e : i = k := by omega
            subst e
            have d2 : decide ((i : Int) < i) = false := decide_eq_false (by omega)
            have CS := Lib.hid (lSweep_at hst)
            have e2 : Hid (putM M o = keptOf (freeTo M o i)) := by show _ = _; rw [putM, E1.out, if_pos rfl, HKN.out]
            have e3 : Hid (putR M o = zeroOf (freeTo M o i)) := by show _ = _; rw [putR, E1.out, if_pos rfl, HKN.out]
            clear hst
            go_wp2_with fail
            refine CS.out.mono ?_
            rintro e w3 ⟨v, rfl, hown, ho3, hst3⟩
            have HOWN := Lib.hid hown
            have HST3 := Lib.hid hst3
            clear hown hst3
            go_wp2_with fail
            go_ret2
            exact ⟨v, by rw [E1.out]; rfl, ho2.trans ho3, by rw [e2.out]; exact HST3.out, by rw [e3.out]; exact own_mono HOWN.out ho2.size⟩
end Go.Proofs.Ytlmjelcnldlagaa

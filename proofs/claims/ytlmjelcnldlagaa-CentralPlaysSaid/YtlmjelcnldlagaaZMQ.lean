/- The reference's list: Put. -/
import Derived.Test.YtlmjelcnldlagaaZMP
import Derived.Deep.RegionLaw
set_option linter.unusedVariables false
set_option linter.unusedSimpArgs false
namespace Go.Proofs.Ytlmjelcnldlagaa
open Go.RowKit

theorem tkn_iff {s : Sp} {a : Int} : (s.tkn a).2 = 0 ↔ (s.obj a).2 = 0 := by
  unfold Sp.tkn
  split
  · rename_i h; simp [h]
  · rename_i h; simp [h]
theorem free_taken {s : Sp} {a : Int} (ho : (s.obj a).2 = 0) : (s.tkn a = (true, 0) ∧ s.free a = (0, s.put (s.obj a).1.toNat 0)) ∨ (s.Good → s.tkn a = (false, 0) ∧ s.free a = (9, s)) := by
  by_cases h : s.st.getD (s.obj a).1.toNat 0 = 1
  · left
    exact ⟨by unfold Sp.tkn; rw [if_pos ho, h]; rfl, Sp.free_ok ho h⟩
  · right
    intro hg
    obtain ⟨_, r2, _⟩ := Sp.obj_range hg a
    refine ⟨by unfold Sp.tkn; rw [if_pos ho]; simp at h ⊢; exact h, ?_⟩
    have h1 := hg.n1
    have r1 := (Sp.obj_range hg a).1
    have := hg.bits (s.obj a).1.toNat (by omega)
    unfold Sp.free
    rw [if_neg (by rw [ho]; simp), if_pos (by rcases this with h2 | h2; exact h2; exact absurd h2 h)]
theorem like_isTk2 {M N : List Sp} (h : Like M N) (a : Int) : (isTk M a).2 = 0 ↔ (isTk N a).2 = 0 := by
  rcases ofI_cases N a with ⟨h1, _⟩ | ⟨k, h1, h2, h3, h4⟩
  · have h5 : ofI M a = none := by rw [h.ofI]; exact h1
    unfold isTk
    rw [h1, h5]
  · have h5 : ofI M a = some k := by rw [h.ofI]; exact h1
    rw [isTk_of h1, isTk_of h5, tkn_iff, tkn_iff, (h.2 k (by rw [h.1]; exact h2)).obj]
/-- What is taken after one is made free was taken before. -/
theorem isTk_mono {M : List Sp} {a b : Int} (h : isTk (freeOne M a) b = (true, 0)) : isTk M b = (true, 0) := by
  have hl := freeOne_like M a
  rcases ofI_cases M b with ⟨h1, _⟩ | ⟨j, h1, h2, h3, h4⟩
  · unfold isTk at h
    rw [hl.ofI, h1] at h
    cases h
  · have h5 : ofI (freeOne M a) b = some j := by rw [hl.ofI]; exact h1
    rw [isTk_of h5] at h
    rw [isTk_of h1]
    unfold freeOne at h
    cases ha : ofI M a with
    | none => rw [ha] at h; exact h
    | some i =>
      rw [ha] at h
      have hi : i < M.length := by
        rcases ofI_cases M a with ⟨h6, _⟩ | ⟨i', h6, h7, _⟩
        · rw [ha] at h6; cases h6
        · rw [ha] at h6; injection h6 with h6; omega
      dsimp only at h
      rw [sAt_set _ hi] at h
      by_cases hij : i = j
      · subst hij
        rw [if_pos rfl] at h
        have hlk := Sp.free_like (sAt M i) a
        unfold Sp.free at h
        split at h
        · exact h
        · split at h
          · exact h
          · rename_i h6 h7
            unfold Sp.free at hlk
            rw [if_neg h6, if_neg h7] at hlk
            unfold Sp.tkn at h ⊢
            rw [hlk.obj] at h
            by_cases ho : ((sAt M i).obj b).2 = 0
            · rw [if_pos ho] at h ⊢
              simp only [Sp.put, Prod.mk.injEq, and_true, beq_iff_eq, List.getD_eq_getElem?_getD, List.getElem?_set] at h ⊢
              split at h
              · split at h
                · simp at h
                · simp at h
              · exact h
            · rw [if_neg ho] at h; injection h with h; cases h
      · rw [if_neg hij] at h
        exact h
/-- What is made free is not taken. -/
theorem isTk_freed {M : List Sp} {a : Int} (h : isTk M a = (true, 0)) : isTk (freeOne M a) a ≠ (true, 0) := by
  obtain ⟨i, i1, i2, i3, i4⟩ := isTk_yes h
  have h5 : ofI (freeOne M a) a = some i := by rw [(freeOne_like M a).ofI]; exact i1
  rw [isTk_of h5, freeOne_of i1, sAt_set _ i2, if_pos rfl, Sp.free_ok i3 i4]
  have hlk := Sp.free_like (sAt M i) a
  rw [Sp.free_ok i3 i4] at hlk
  intro h
  unfold Sp.tkn at h
  rw [hlk.obj, if_pos i3] at h
  have hlt : ((sAt M i).obj a).1.toNat < (sAt M i).st.length := by
    rcases Nat.lt_or_ge ((sAt M i).obj a).1.toNat (sAt M i).st.length with h | h
    · exact h
    · rw [List.getD_eq_getElem?_getD, List.getElem?_eq_none h] at i4; cases i4
  simp [Sp.put, List.getD_eq_getElem?_getD, List.getElem?_set, hlt] at h
theorem isTk_monos {M : List Sp} {o : List Int} {b : Int} (i d : Nat) (h : isTk (freeTo M o (i + d)) b = (true, 0)) : isTk (freeTo M o i) b = (true, 0) := by
  induction d with
  | zero => exact h
  | succ d ih => exact ih (isTk_mono h)
theorem twiceTo_no {M : List Sp} {o : List Int} (n : Nat) (hn : n ≤ o.length) (h : ∀ j, j < n → isTk (freeTo M o j) (iAt o j) = (true, 0)) : twiceTo M o n = false := by
  induction n with
  | zero => rfl
  | succ n ih =>
    rw [twiceTo, ih (by omega) (fun j hj => h j (by omega))]
    have h1 : isTk M (iAt o n) = (true, 0) := isTk_monos 0 n (by rw [Nat.zero_add]; exact h n (by omega))
    rw [h1]
    rcases idxOf_cases (o.take n) (iAt o n) with ⟨h2, _⟩ | ⟨k, h2, h3, h4, _⟩
    · rw [h2]; rfl
    · exfalso
      rw [List.length_take] at h3
      have e : iAt o k = iAt o n := by rw [← h4]; simp [iAt, List.getD_eq_getElem?_getD, List.getElem?_take, show k < n by omega]
      have h5 := h n (by omega)
      have h6 := isTk_monos (k + 1) (n - (k + 1)) (by rw [show k + 1 + (n - (k + 1)) = n by omega]; exact h5)
      rw [← e] at h6
      exact isTk_freed (h k (by omega)) h6
theorem twiceTo_yes {c : Cl} {M : List Sp} (hg : GoodL c M) {o : List Int} {k : Nat} (hk : k < o.length) (hb : badTo M o o.length = false) (h : isTk (freeTo M o k) (iAt o k) ≠ (true, 0)) : twiceTo M o o.length = true := by
  cases ht : twiceTo M o o.length with
  | true => rfl
  | false => exact absurd ((freeTo_tk hg k (by omega) hb ht).2 k (Nat.le_refl _) hk) h
theorem badTo_no {M : List Sp} {o : List Int} {n k : Nat} (hk : k < n) (h : badTo M o n = false) : (isTk M (iAt o k)).2 = 0 := by
  cases Decidable.em ((isTk M (iAt o k)).2 = 0) with
  | inl h1 => exact h1
  | inr h1 => rw [badTo_err hk h1] at h; cases h

theorem qspan_st {w : World} {P : Nat} {bl : List Nat} {c : Cl} {M : List Sp} (h : QSt w P bl c M) (a : Int) : Calls Try.prog 87 #[.pointer (some ⟨P, 0, none⟩), .int .i64 a] w fun e w' => Only [] w w' ∧
    ((isTk M a).2 = 0 ∧ (∃ j : Nat, e = .returned (.int .i64 j)) ∨ ((isTk M a).2 ≠ 0 ∧ e = .returned (.int .i64 (-1)))) := by
  obtain ⟨⟨A, L, h1, rfl, h3⟩, h4⟩ := h
  refine (qspan_at h1 a).mono ?_
  rintro e w' ⟨ho, ⟨j, j1, j2, j3, j4, rfl⟩ | ⟨h5, rfl⟩⟩
  · exact ⟨ho, .inl ⟨by rw [j4]; exact j3, j, rfl⟩⟩
  · exact ⟨ho, .inr ⟨h5, rfl⟩⟩

set_option maxRecDepth 100000 in
set_option maxHeartbeats 8000000 in
theorem qPut_at {w : World} {P : Nat} {bl : List Nat} {c : Cl} {M : List Sp} (h : QSt w P bl c M) (B : Option Addr) (n cap : Nat) (o : List Int) (ho : ReadsI w B n o) (hi : ∀ j, j < n → I64 (iAt o j)) (hn : n ≤ 1000000) (hcap : n ≤ cap) :
    Calls Try.prog 60 #[.pointer (some ⟨P, 0, none⟩), .slice B n cap] w fun e w' => ∃ v, e = .returned (.tuple #[v, .int .i64 (putE M o)]) ∧ QTurn w P bl w' c (putM M o) ∧ w'.ownsRow w.heap.size 37 2 v (putR M o).length (cellsR (putR M o)) := by
  have CM := Lib.hid (qmade_st h)
  have HS := Lib.hid h
  have HG := Lib.hid h.goodL
  have HR := Lib.hid ho
  have HI := Lib.hid hi
  have HLEN := Lib.hid ho.1
  clear h ho hi
  go_enter Try.func60, Try.ntmps60
  go_wp2_with (first | (go_at_call 56; with_reducible refine Still.use CM.out ?_))
  go_loopw [6] (fun t wr => ∃ k : Nat, k ≤ n ∧ t = .int .i64 k ∧ Only [] w wr ∧ badTo M o k = false) (fun t _ => n - (intOf t).toNat)
  case atStart => exact ⟨0, Nat.zero_le _, rfl, Only.refl _ _, rfl⟩
  case round =>
    obtain ⟨k, hk, rfl, hoW, hbad⟩ := hrel
    have HBAD := Lib.hid hbad
    clear hbad
    by_cases hlt : k < n
    · have d1 : decide ((k : Int) < n) = true := decide_eq_true (by omega)
      have hrd := HR.out.only hoW (by simp)
      obtain ⟨ad, rfl, hc⟩ := hrd.2 (by omega)
      have c0 := hc k hlt
      have CT := Lib.hid (qspan_st (HS.out.still hoW) (iAt o k))
      have HC8 := Lib.hid (fun (h : (isTk M (iAt o k)).2 ≠ 0) => badTo_err (n := n) hlt h)
      have hc8 := isTk_cases HG.out (iAt o k)
      have HBS : Hid (badTo M o (k + 1) = (badTo M o k || (isTk M (iAt o k)).2 != 0)) := rfl
      change wr.cell? (ad.add k) = some (.int .i64 (iAt o k)) at c0
      clear hc hrd
      generalize iAt o k = x at *
      generalize (isTk M x).2 = b2 at *
      go_wp2_with fail
      refine CT.out.mono ?_
      rintro e w1 ⟨ho1, ⟨h0, j, rfl⟩ | ⟨h0, rfl⟩⟩
      · have HB2 : Hid (badTo M o (k + 1) = false) := by show _ = _; rw [HBS.out, HBAD.out, h0]; rfl
        have d2 : decide ((j : Int) < 0) = false := decide_eq_false (by omega)
        clear h0
        go_wp2_with fail
        go_roundw
        case rel => exact ⟨k + 1, by omega, by go_num, hoW.trans ho1, HB2.out⟩
        case measure => simp [intOf]; omega
      · have E1 : Hid (putE M o = 8) := by show _ = _; rw [putE, HLEN.out, HC8.out h0]; rfl
        clear h0 hc8 HC8 HBS
        go_wp2_with fail
        go_ret2
        have e2 : putM M o = M := by rw [putM, E1.out, if_neg (by decide)]
        have e3 : putR M o = [] := by rw [putR, E1.out, if_neg (by decide)]
        exact ⟨_, by rw [E1.out]; rfl, by rw [e2]; exact QTurn.same HS.out (hoW.trans ho1), by rw [e3]; exact World.ownsRow_nil _ _ _ _⟩
    · have e : k = n := by omega
      subst e
      have d1 : decide ((k : Int) < k) = false := decide_eq_false (by omega)
      have HKN : Hid (o.length = k) := HLEN.out
      have CC := Lib.hid (qClone_at (HS.out.still hoW))
      go_wp2_with fail
      refine CC.out.mono ?_
      rintro e w1 ⟨ho1, X, bl1, rfl, hst1, hbl1⟩
      have hoW1 := hoW.trans ho1
      have HST1 := Lib.hid hst1
      have HBL1 := Lib.hid (fun b (hb : b ∈ bl1) => Nat.le_trans hoW.size (hbl1 b hb))
      have HOW1 := Lib.hid hoW1
      clear hst1 hbl1
      go_wp2_with fail
      go_loopw [8] (fun t wr => ∃ i : Nat, i ≤ k ∧ t = .int .i64 i ∧ Only [] w wr ∧ QSt wr X bl1 c (freeTo M o i) ∧ ∀ j, j < i → isTk (freeTo M o j) (iAt o j) = (true, 0)) (fun t _ => k - (intOf t).toNat)
      case atStart => exact ⟨0, Nat.zero_le _, rfl, HOW1.out, HST1.out, fun j hj => absurd hj (by omega)⟩
      case round =>
        obtain ⟨i, hi, rfl, ho2, hst, htk⟩ := hrel
        have HTK := Lib.hid htk
        clear htk
        by_cases hlt2 : i < k
        · have d2 : decide ((i : Int) < k) = true := decide_eq_true (by omega)
          have hrd := HR.out.only ho2 (by simp)
          obtain ⟨ad, rfl, hc⟩ := hrd.2 (by omega)
          have c0 := hc i hlt2
          change wr.cell? (ad.add i) = some (.int .i64 (iAt o i)) at c0
          have H0 := Lib.hid ((like_isTk2 (freeTo_like M o i) (iAt o i)).2 (badTo_no hlt2 HBAD.out))
          have HFS : Hid (freeTo M o (i + 1) = freeOne (freeTo M o i) (iAt o i)) := rfl
          have HY := Lib.hid (fun (h : isTk (freeTo M o i) (iAt o i) ≠ (true, 0)) => twiceTo_yes HG.out (o := o) (k := i) (by rw [HKN.out]; exact hlt2) (by rw [HKN.out]; exact HBAD.out) h)
          have HTK2 := Lib.hid (fun (h : isTk (freeTo M o i) (iAt o i) = (true, 0)) => show ∀ j, j < i + 1 → isTk (freeTo M o j) (iAt o j) = (true, 0) from fun j hj => by
            by_cases e : j = i
            · rw [e]; exact h
            · exact HTK.out j (by omega))
          obtain ⟨⟨A, L, hA, hM, hIn⟩, hltb⟩ := hst
          rw [← hM] at H0 HFS HY HTK2
          have HA := Lib.hid hA
          have HIN := Lib.hid hIn
          have HLTB := Lib.hid hltb
          have CT := Lib.hid (qspan_at hA (iAt o i))
          obtain ⟨xx, hxx⟩ : ∃ x, x = iAt o i := ⟨_, rfl⟩
          have HO2 := Lib.hid ho2
          rw [← hxx] at c0 CT H0 HFS HY HTK2
          clear hM hc hrd hA hIn hltb hxx
          go_wp2_with fail
          refine CT.out.mono ?_
          rintro e w2 ⟨ho3, ⟨j, j1, j2, j3, j4, rfl⟩ | ⟨h1, rfl⟩⟩
          · have hr := HA.out.still ho3
            obtain ⟨g, cp, rfl⟩ := hr.form (by omega)
            have z3 := hr.blk.cell_ 3 rfl
            have q0 := own_ptrs hr.row rfl j1
            have hrd2 := HR.out.only (HO2.out.trans ho3) (by simp)
            obtain ⟨ad', e', hc'⟩ := hrd2.2 (by omega)
            injection e' with e'
            subst e'
            have c1 := hc' i hlt2
            change w2.cell? (ad.add i) = some (.int .i64 (iAt o i)) at c1
            have c1' : w2.cell? (ad.add i) = some (.int .i64 xx) := ho3.cell_at c0
            clear c1 hc' hrd2
            have hsp := (hr.get j1).1
            have hn1 := hr.len
            have CP := Lib.hid (rPut_at hsp.drew xx)
            have HSPG := Lib.hid hsp.good
            have HR2 := Lib.hid hr
            have HJ1 := Lib.hid j1
            have HJ2 := Lib.hid j2
            have HINE := Lib.hid (HIN.out.e _ (eAt_mem j1))
            have hft := free_taken (s := (eAt L j).s) (a := xx) (tkn_iff.1 j3)
            have HJ4 := Lib.hid j4
            have HO3 := Lib.hid ho3
            clear hr hsp j2 j3 j4
            rcases hft with ⟨f1, f2⟩ | f
            · rw [f2] at CP
              have HTKD := Lib.hid (HTK2.out (by rw [HJ4.out]; exact f1))
              have HF2 := Lib.hid (show freeOne (spans L) xx = (spans L).set j ((eAt L j).s.put ((eAt L j).s.obj xx).1.toNat 0) by rw [freeOne_of HJ2.out, sAt_spans, f2])
              clear f1 f2 j1
              obtain ⟨pp, hpp⟩ : ∃ p, p = (eAt L j).p := ⟨_, rfl⟩
              obtain ⟨nl, hnl⟩ : ∃ n, n = L.length := ⟨_, rfl⟩
              rw [← hpp] at CP q0
              have hj1 := HJ1.out
              rw [← hnl] at z3 hj1
              have hn2 : nl ≤ 1024 := by rw [hnl]; exact hn1
              have HPP := Lib.hid hpp
              clear hn1 hnl hpp
              go_wp2_with fail
              go_region_law (go_simp; go_at_call 88; refine CP.out.mono ?_; rintro e w3 ⟨rfl, hsp3, ho4⟩)
              all_goals
                go_wp2_with fail
                go_roundw
                case rel =>
                  rw [HPP.out] at hsp3 ho4
                  have hoD : Only [(eAt L j).p, (eAt L j).q] w2 w3 := ((Only.refl [] w2).drew.of_nil).trans ho4
                  have hoT : Only [] w w3 := (HO2.out.trans HO3.out).then_ hoD (fun b hb => .inr (by
                    simp at hb
                    rcases hb with rfl | rfl
                    · exact HBL1.out _ HINE.out.1
                    · exact HBL1.out _ HINE.out.2))
                  refine ⟨i + 1, by omega, by go_num, hoT, ?_, HTKD.out⟩
                  rw [HFS.out, HF2.out]
                  refine QSt.set HJ1.out (HR2.out.step HJ1.out hsp3 hoD rfl rfl rfl rfl) HIN.out (fun y hy => ?_)
                  have a1 := HLTB.out y hy
                  have a2 := HO3.out.size
                  have a3 := hoD.size
                  omega
                case measure => simp [intOf]; omega
            · obtain ⟨f1, f2⟩ := f HSPG.out
              rw [f2] at CP
              have E1 : Hid (putE M o = 9) := by
                show _ = _
                have h9 := HY.out (by rw [HJ4.out, f1]; decide)
                rw [putE, h9, HKN.out, HBAD.out]; rfl
              clear f1 f2 j1 f
              obtain ⟨pp, hpp⟩ : ∃ p, p = (eAt L j).p := ⟨_, rfl⟩
              obtain ⟨nl, hnl⟩ : ∃ n, n = L.length := ⟨_, rfl⟩
              rw [← hpp] at CP q0
              have hj1 := HJ1.out
              rw [← hnl] at z3 hj1
              have hn2 : nl ≤ 1024 := by rw [hnl]; exact hn1
              have HPP := Lib.hid hpp
              clear hn1 hnl hpp
              go_wp2_with fail
              go_region_law (go_simp; go_at_call 88; refine CP.out.mono ?_; rintro e w3 ⟨rfl, hsp3, ho4⟩)
              all_goals
                go_wp2_with fail
                go_ret2
                rw [HPP.out] at hsp3 ho4
                have hoD : Only [(eAt L j).p, (eAt L j).q] w2 w3 := ((Only.refl [] w2).drew.of_nil).trans ho4
                have hoT : Only [] w w3 := (HO2.out.trans HO3.out).then_ hoD (fun b hb => .inr (by
                  simp at hb
                  rcases hb with rfl | rfl
                  · exact HBL1.out _ HINE.out.1
                  · exact HBL1.out _ HINE.out.2))
                have e2 : putM M o = M := by rw [putM, E1.out, if_neg (by decide)]
                have e3 : putR M o = [] := by rw [putR, E1.out, if_neg (by decide)]
                exact ⟨_, by rw [E1.out]; rfl, by rw [e2]; exact QTurn.same HS.out hoT, by rw [e3]; exact World.ownsRow_nil _ _ _ _⟩
          · exact absurd H0.out h1
        · have e : i = k := by omega
          subst e
          have d2 : decide ((i : Int) < i) = false := decide_eq_false (by omega)
          have E1 : Hid (putE M o = 0) := by show _ = _; rw [putE, HKN.out, HBAD.out, twiceTo_no i (by rw [HKN.out]; exact Nat.le_refl _) HTK.out]; rfl
          have e2 : Hid (putM M o = keptOf (freeTo M o i)) := by show _ = _; rw [putM, E1.out, if_pos rfl, HKN.out]
          have e3 : Hid (putR M o = zeroOf (freeTo M o i)) := by show _ = _; rw [putR, E1.out, if_pos rfl, HKN.out]
          obtain ⟨⟨A, L, hA, hM, hIn⟩, hltb⟩ := hst
          obtain ⟨A0, L0, hA0, hM0, hI0⟩ := HS.out.ex
          have HI0 := Lib.hid hI0
          obtain ⟨ad0, cp0, rfl⟩ := hA0.slice
          have hb0 := hA0.blk.only ho2 (by simp)
          have y4 := hb0.cell_ 3 rfl
          have zf := hb0.frozen 3
          have HLT0 := Lib.hid HS.out.lt
          have hP0 := hA0.blk.lt
          have y3 := hA.blk.cell_ 3 rfl
          obtain ⟨ad, cp, rfl⟩ := hA.slice
          have hst2 : QSt (wr.setCell ⟨P, 3, none⟩ (.slice ad L.length cp)) P (P :: bl1) c (freeTo M o i) := by
            have oS : Only [P] wr (wr.setCell ⟨P, 3, none⟩ (.slice ad L.length cp)) := (Only.refl [P] wr).setCell (.inl (by simp)) _
            have hnP : ∀ b ∈ bl1, b ≠ P := fun b hb e => by have := HBL1.out b hb; omega
            refine ⟨⟨_, L, ⟨hb0.set_ 3 _, hA.one, own_only hA.row oS (fun k hk hb => by simp at hb; exact hnP k (hIn.a k hk) hb), fun e he => ?_, fun e he => ?_, fun e => hnP P (hIn.a P e) rfl, hA.ap⟩, hM, ⟨by simp, fun k hk => by simp [hIn.a k hk], fun e he => by simp [hIn.e e he]⟩⟩, fun b hb => ?_⟩
            · have h5 := hIn.e e he
              exact ⟨(hA.sp e he).1.only oS (by simpa using hnP _ h5.1) (by simpa using hnP _ h5.2), (hA.sp e he).2⟩
            · have h5 := hIn.e e he
              have h6 := hA.ne e he
              exact ⟨hnP _ h5.1, hnP _ h5.2, h6.2.2⟩
            · simp at hb
              have := oS.size
              rcases hb with rfl | hb
              · have := ho2.size; omega
              · have := hltb b hb; omega
          have HST2 := Lib.hid hst2
          have HO2 := Lib.hid ho2
          obtain ⟨nl, hnl⟩ : ∃ n, n = L.length := ⟨_, rfl⟩
          rw [← hnl] at y3 HST2
          generalize L0.length = nl0 at *
          clear hA hA0 hM hM0 hIn hltb hI0 hb0 hst2 hnl
          go_wp2_with fail
          have CS := Lib.hid (qSweep_at HST2.out)
          refine CS.out.mono ?_
          rintro e w3 ⟨v, rfl, hown, hT⟩
          have HOWN := Lib.hid hown
          have HT := Lib.hid hT
          clear hown hT CS
          go_wp2_with fail
          go_ret2
          have hoS : Only bl w (wr.setCell ⟨P, 3, none⟩ (.slice ad nl cp)) := (HO2.out.of_nil (l := bl)).setCell (.inl HI0.out.p) _
          have hl : ∀ b ∈ P :: bl1, b ∈ bl ∨ w.heap.size ≤ b := fun b hb => by
            simp at hb
            rcases hb with rfl | hb
            · exact .inl HI0.out.p
            · exact .inr (HBL1.out b hb)
          exact ⟨v, by rw [E1.out]; rfl, by rw [e2.out]; exact QTurn.step hoS hl HT.out, by rw [e3.out]; exact own_mono HOWN.out hoS.size⟩
end Go.Proofs.Ytlmjelcnldlagaa

/- The reference's list: Take. -/
import Derived.Test.YtlmjelcnldlagaaZML
set_option linter.unusedVariables false
set_option linter.unusedSimpArgs false
namespace Go.Proofs.Ytlmjelcnldlagaa
open Go.RowKit

theorem ptrs_set (L : List En) (b : Nat) (e : En) (hb : b < L.length) (hp : e.p = (eAt L b).p) : ptrs (L.set b e) = ptrs L := by
  induction L generalizing b with
  | nil => simp at hb
  | cons x L ih =>
    cases b with
    | zero =>
      simp [eAt] at hp
      simp [ptrs, hp]
    | succ b =>
      have := ih b (by simpa using hb) (by simpa [eAt] using hp)
      simp only [ptrs, List.set_cons_succ, List.map_cons] at this ⊢
      rw [this]
theorem QAt.ne2 {w : World} {P : Nat} {A : Value} {c : Cl} {L : List En} (h : QAt w P A c L) {i j : Nat} (hi : i < L.length) (hj : j < L.length) (hij : i ≠ j) : (eAt L i).p ∉ [(eAt L j).p, (eAt L j).q] ∧ (eAt L i).q ∉ [(eAt L j).p, (eAt L j).q] := by
  rcases Nat.lt_or_ge i j with h1 | h1
  · have := h.apart h1 hj
    simp
    exact ⟨⟨this.pp, this.pq⟩, this.qp, this.qq⟩
  · have := h.apart (show j < i by omega) hi
    simp
    exact ⟨⟨fun e => this.pp e.symm, fun e => this.qp e.symm⟩, fun e => this.pq e.symm, fun e => this.qq e.symm⟩
/-- One span of a list has changed. -/
theorem QAt.step {w w1 : World} {P : Nat} {A : Value} {c : Cl} {L : List En} (h : QAt w P A c L) {b : Nat} (hb : b < L.length) {s' : Sp} (h1 : RefAt w1 (eAt L b).p (eAt L b).q (eAt L b).cap s') (ho : Only [(eAt L b).p, (eAt L b).q] w w1)
    (e1 : s'.start = (eAt L b).s.start) (e2 : s'.size = (eAt L b).s.size) (e3 : s'.pages = (eAt L b).s.pages) (e4 : s'.batch = (eAt L b).s.batch) :
    QAt w1 P A c (L.set b { eAt L b with s := s' }) := by
  have hB := h.ne _ (eAt_mem hb)
  have hof := (h.get hb).2
  have hset : ∀ i, eAt (L.set b { eAt L b with s := s' }) i = if b = i then { eAt L b with s := s' } else eAt L i := eAt_set _ hb
  refine ⟨h.blk.only ho (by simp; exact ⟨Ne.symm hB.1, Ne.symm hB.2.1⟩), h.one, ?_, fun e he => ?_, fun e he => ?_, h.nA, ?_⟩
  · rw [List.length_set, ptrs_set L b { eAt L b with s := s' } hb rfl]
    exact own_only h.row ho (fun k hk => by
      simp
      exact ⟨fun e => hB.2.2.1 (by rw [hk, e]), fun e => hB.2.2.2 (by rw [hk, e])⟩)
  · obtain ⟨i, hi, rfl⟩ := mem_eAt he
    rw [List.length_set] at hi
    rw [hset i]
    split
    · rename_i hbi
      subst hbi
      exact ⟨h1, e2.trans hof.1, e3.trans hof.2.1, e4.trans hof.2.2⟩
    · rename_i hbi
      have hd := h.ne2 hi hb (Ne.symm hbi)
      exact ⟨(h.get hi).1.only ho hd.1 hd.2, (h.get hi).2⟩
  · obtain ⟨i, hi, rfl⟩ := mem_eAt he
    rw [List.length_set] at hi
    rw [hset i]
    split
    · exact hB
    · exact h.ne _ (eAt_mem hi)
  · rw [pw_eAt]
    intro i j hij hj
    rw [List.length_set] at hj
    have := h.apart hij hj
    rw [hset i, hset j]
    split
    · rename_i hbi
      subst hbi
      rw [if_neg (by omega)]
      exact ⟨by rw [e1, e3]; exact this.ord, this.pp, this.pq, this.qp, this.qq⟩
    · split
      · rename_i hbj
        subst hbj
        exact ⟨by rw [e1]; exact this.ord, this.pp, this.pq, this.qp, this.qq⟩
      · exact this
theorem QSt.set {w : World} {P : Nat} {A : Value} {bl : List Nat} {c : Cl} {L : List En} {b : Nat} {s' : Sp} (hb : b < L.length) (h : QAt w P A c (L.set b { eAt L b with s := s' })) (hi : InBl P A L bl) (hl : ∀ x ∈ bl, x < w.heap.size) : QSt w P bl c ((spans L).set b s') := by
  refine ⟨⟨A, _, h, by rw [spans, spans, List.map_set], hi.p, hi.a, fun e he => ?_⟩, hl⟩
  obtain ⟨i, hi', rfl⟩ := mem_eAt he
  rw [List.length_set] at hi'
  rw [eAt_set _ hb]
  split
  · show (eAt L b).p ∈ bl ∧ (eAt L b).q ∈ bl
    exact hi.e _ (eAt_mem hb)
  · exact hi.e _ (eAt_mem hi')
theorem qmade_st {w : World} {P : Nat} {bl : List Nat} {c : Cl} {M : List Sp} (h : QSt w P bl c M) : Still Try.prog 56 #[.pointer (some ⟨P, 0, none⟩)] w (.bool true) := by
  obtain ⟨⟨A, L, h1, rfl, h3⟩, h4⟩ := h
  exact qmade_at h1

set_option maxRecDepth 100000 in
set_option maxHeartbeats 8000000 in
theorem qTake_at {w : World} {P : Nat} {bl : List Nat} {c : Cl} {M : List Sp} (h : QSt w P bl c M) (many : Int) :
    Calls Try.prog 59 #[.pointer (some ⟨P, 0, none⟩), .int .i64 many] w fun e w' => Only bl w w' ∧ (many < 0 → e = .returned (.tuple #[.slice none 0 0, .int .i64 1]) ∧ QSt w' P bl c M) ∧
      (0 ≤ many → ∃ v, e = .returned (.tuple #[v, .int .i64 0]) ∧ QSt w' P bl c (takesTo M many.toNat).2 ∧ w'.ownsRow w.heap.size 3 1 v (takesTo M many.toNat).1.length ((takesTo M many.toNat).1.map (Value.int .i64))) := by
  have CM := Lib.hid (qmade_st h)
  by_cases hm : many < 0
  · have d0 : decide (many < 0) = true := decide_eq_true hm
    have HM := Lib.hid hm
    have HS := Lib.hid h
    clear hm h
    go_enter Try.func59, Try.ntmps59
    go_wp2_with (first | (go_at_call 56; with_reducible refine Still.use CM.out ?_))
    go_ret2
    exact ⟨Only.refl _ _, fun _ => ⟨rfl, HS.out⟩, fun h => absurd h (by have := HM.out; omega)⟩
  · have d0 : decide (many < 0) = false := decide_eq_false hm
    obtain ⟨m, rfl⟩ : ∃ m : Nat, many = m := ⟨many.toNat, by omega⟩
    rw [Int.toNat_natCast]
    have HS := Lib.hid h
    have G0 := Lib.hid h.goodL.many_le
    obtain ⟨i0, hi, hz0, hz1, hz2⟩ := info_parts info_int
    have HLT := Lib.hid h.lt
    clear hm h
    go_enter Try.func59, Try.ntmps59
    go_wp2_with (first | (go_at_call 56; with_reducible refine Still.use CM.out ?_))
    go_loopw [6] (fun u wr => ∃ k : Nat, k ≤ m ∧ Only bl w wr ∧ QSt wr P bl c (takesTo M k).2 ∧ (takesTo M k).1.length = k ∧ manyOf (takesTo M k).2 = manyOf M + k ∧ wr.ownsRow w.heap.size 3 1 u k ((takesTo M k).1.map (Value.int .i64))) (fun u _ => m - lenV u)
    case atStart => exact ⟨0, Nat.zero_le _, Only.refl _ _, HS.out, rfl, by simp [takesTo], World.ownsRow_nil _ _ _ _⟩
    case round =>
      obtain ⟨k, hk, ho, hst, hl, hmn, hown⟩ := hrel
      obtain ⟨A', c', rfl, _⟩ := own_slice hown
      generalize hwq : wr = wq at *
      clear hwq
      have gl := hst.goodL.many_le
      have g0 := G0.out
      by_cases hlt : k < m
      · have d1 : decide ((k : Int) < m) = true := decide_eq_true (by omega)
        have HK := Lib.hid (show k ≤ 131072 by omega)
        have HH := Lib.hid hst
        have HL := Lib.hid hl
        have HMN := Lib.hid hmn
        have HW := Lib.hid hown
        have HO := Lib.hid ho
        have HMORE := Lib.hid (fun h => takesTo_more (M := M) (k := k) h)
        have HSTOP := Lib.hid (fun h j => takesTo_stop (M := M) (k := k) h j)
        have HM2 := Lib.hid (fun h => hst.goodL.one_many h)
        obtain ⟨⟨Aq, L, hA, hM, hI⟩, hltb⟩ := hst
        have HA := Lib.hid hA
        have HI := Lib.hid hI
        have HLB := Lib.hid hltb
        have HMM := Lib.hid hM
        obtain ⟨adq, cpq, rfl⟩ := hA.slice
        have hn := hA.len
        obtain ⟨N, hN⟩ : ∃ N, N = L.length := ⟨_, rfl⟩
        have HNS : Hid ((spans L).length = N) := Lib.hid (by rw [hN, ← spans_len])
        rw [← hN] at hn
        have HN := Lib.hid hN
        clear hl hmn gl g0 hA hM hI hltb hN hown ho
        go_wp2_with fail
        go_loopw [7, 8] (fun b t wr => ∃ k : Nat, k ≤ N ∧ t = .int .i64 k ∧ Only [] wq wr ∧ b = .int .i64 (bI (bestTo (spans L) k))) (fun _ t _ => N - (intOf t).toNat)
        case atStart => exact ⟨0, Nat.zero_le _, rfl, Only.refl _ _, rfl⟩
        case round =>
          obtain ⟨j, hj, rfl, ho, rfl⟩ := hrel
          have hr := HA.out.still ho
          have z3 := hr.blk.cell_ 3 rfl
          rw [← HN.out] at z3
          by_cases hltj : j < N
          · have d2 : decide ((j : Int) < N) = true := decide_eq_true (by omega)
            have hjL : j < L.length := by rw [← HN.out]; exact hltj
            obtain ⟨g, cp', e1⟩ := hr.form (by omega)
            injection e1 with e1 _ e3
            subst e1 e3
            have q0 := own_ptrs hr.row rfl hjL
            obtain ⟨m1, m2⟩ := (hr.get hjL).1.good.many
            have m3 := (hr.get hjL).1.good.len
            have CT := Lib.hid (fun u : After wr => rTaken_at ((hr.get hjL).1.only u.ok (by simp) (by simp)))
            have CO := Lib.hid (fun u : After wr => rObjects_at ((hr.get hjL).1.only u.ok (by simp) (by simp)))
            have Z3 := cell_after z3
            have Q0 := cell_after q0
            cases hb : bestTo (spans L) j with
            | none =>
              unfold bI
              by_cases h1 : (eAt L j).s.many < (eAt L j).s.st.length
              · have HB := Lib.hid (bestTo_first hb (by rw [sAt_spans]; exact h1))
                have d3 : decide ((eAt L j).s.many < ((eAt L j).s.st.length : Int)) = true := decide_eq_true h1
                clear hb h1 hr hjL
                generalize (eAt L j).s.many = mk at *
                generalize (eAt L j).s.st.length = lk at *
                generalize (eAt L j).p = pk at *
                go_wp2_with fail
                refine wp_region_grew (by kernel_rfl) (by kernel_rfl) ?_
                repeat (go_big_quiet_step (first | (go_at_call 85; exact Grew.g (Still.grew (CO.out _))) | (go_at_call 84; exact Grew.g (CT.out _))))
                refine wpQuiet_nil ?_
                rintro _ ⟨u, rfl⟩
                go_wp2_with fail
                go_roundw
                case rel => exact ⟨j + 1, by omega, by go_num, ho.trans u.ok, by rw [HB.out] <;> rfl⟩
                case measure => simp [intOf]; try omega
              · have HB := Lib.hid (bestTo_none hb (by rw [sAt_spans]; exact h1))
                have d3 : decide ((eAt L j).s.many < ((eAt L j).s.st.length : Int)) = false := decide_eq_false h1
                clear hb h1 hr hjL
                generalize (eAt L j).s.many = mk at *
                generalize (eAt L j).s.st.length = lk at *
                generalize (eAt L j).p = pk at *
                go_wp2_with fail
                refine wp_region_grew (by kernel_rfl) (by kernel_rfl) ?_
                repeat (go_big_quiet_step (first | (go_at_call 85; exact Grew.g (Still.grew (CO.out _))) | (go_at_call 84; exact Grew.g (CT.out _))))
                refine wpQuiet_nil ?_
                rintro _ ⟨u, rfl⟩
                go_wp2_with fail
                go_roundw
                case rel => exact ⟨j + 1, by omega, by go_num, ho.trans u.ok, by rw [HB.out] <;> rfl⟩
                case measure => simp [intOf]; try omega
            | some b =>
              have hbj : b < j := (bestTo_lt _ _ _ hb).1
              have hbL : b < L.length := by omega
              have r0 := own_ptrs hr.row rfl hbL
              have R0 := cell_after r0
              have CB := Lib.hid (fun u : After wr => rTaken_at ((hr.get hbL).1.only u.ok (by simp) (by simp)))
              have dn : decide ((b : Int) < 0) = false := decide_eq_false (by omega)
              unfold bI
              by_cases h1 : (eAt L j).s.many < (eAt L j).s.st.length
              · have d3 : decide ((eAt L j).s.many < ((eAt L j).s.st.length : Int)) = true := decide_eq_true h1
                by_cases h2 : (eAt L b).s.many < (eAt L j).s.many
                · have HB := Lib.hid (bestTo_more hb (by rw [sAt_spans]; exact h1) (by rw [sAt_spans, sAt_spans]; exact h2))
                  have d4 : decide ((eAt L b).s.many < (eAt L j).s.many) = true := decide_eq_true h2
                  clear hb h1 h2 hr hjL hbL
                  generalize (eAt L j).s.many = mk at *
                  generalize (eAt L j).s.st.length = lk at *
                  generalize (eAt L j).p = pk at *
                  generalize (eAt L b).s.many = mb at *
                  generalize (eAt L b).p = pb at *
                  go_wp2_with fail
                  refine wp_region_grew (by kernel_rfl) (by kernel_rfl) ?_
                  repeat (go_big_quiet_step (first | (go_at_call 85; exact Grew.g (Still.grew (CO.out _))) | (go_at_call 84; exact Grew.g (CT.out _)) | (go_at_call 84; exact Grew.g (CB.out _))))
                  refine wpQuiet_nil ?_
                  rintro _ ⟨u, rfl⟩
                  go_wp2_with fail
                  go_roundw
                  case rel => exact ⟨j + 1, by omega, by go_num, ho.trans u.ok, by rw [HB.out] <;> rfl⟩
                  case measure => simp [intOf]; try omega
                · have HB := Lib.hid (bestTo_keep hb (by rw [sAt_spans, sAt_spans]; exact fun h => h2 h.2))
                  have d4 : decide ((eAt L b).s.many < (eAt L j).s.many) = false := decide_eq_false h2
                  clear hb h1 h2 hr hjL hbL
                  generalize (eAt L j).s.many = mk at *
                  generalize (eAt L j).s.st.length = lk at *
                  generalize (eAt L j).p = pk at *
                  generalize (eAt L b).s.many = mb at *
                  generalize (eAt L b).p = pb at *
                  go_wp2_with fail
                  refine wp_region_grew (by kernel_rfl) (by kernel_rfl) ?_
                  repeat (go_big_quiet_step (first | (go_at_call 85; exact Grew.g (Still.grew (CO.out _))) | (go_at_call 84; exact Grew.g (CT.out _)) | (go_at_call 84; exact Grew.g (CB.out _))))
                  refine wpQuiet_nil ?_
                  rintro _ ⟨u, rfl⟩
                  go_wp2_with fail
                  go_roundw
                  case rel => exact ⟨j + 1, by omega, by go_num, ho.trans u.ok, by rw [HB.out] <;> rfl⟩
                  case measure => simp [intOf]; try omega
              · have HB := Lib.hid (bestTo_keep hb (by rw [sAt_spans]; exact fun h => h1 h.1))
                have d3 : decide ((eAt L j).s.many < ((eAt L j).s.st.length : Int)) = false := decide_eq_false h1
                clear hb h1 hr hjL hbL CB R0 r0
                generalize (eAt L j).s.many = mk at *
                generalize (eAt L j).s.st.length = lk at *
                generalize (eAt L j).p = pk at *
                go_wp2_with fail
                refine wp_region_grew (by kernel_rfl) (by kernel_rfl) ?_
                repeat (go_big_quiet_step (first | (go_at_call 85; exact Grew.g (Still.grew (CO.out _))) | (go_at_call 84; exact Grew.g (CT.out _))))
                refine wpQuiet_nil ?_
                rintro _ ⟨u, rfl⟩
                go_wp2_with fail
                go_roundw
                case rel => exact ⟨j + 1, by omega, by go_num, ho.trans u.ok, by rw [HB.out] <;> rfl⟩
                case measure => simp [intOf]; try omega
          · have e : j = N := by omega
            subst e
            have d2 : decide ((j : Int) < j) = false := decide_eq_false (by omega)
            cases hb : bestTo (spans L) j with
            | none =>
              unfold bI
              have hb' : bestTo (spans L) (spans L).length = none := by rw [HNS.out]; exact hb
              have HN1 := Lib.hid (show (one7 (takesTo M k).2).1.2 = false by rw [← HMM.out]; unfold one7; rw [hb'])
              have HO2 := Lib.hid ho
              clear hb hb' hr ho
              go_wp2_with fail
              go_ret2
              have hN : takesTo M m = takesTo M k := by rw [show m = k + (m - k) by omega]; exact HSTOP.out HN1.out _
              exact ⟨HO.out.then_ HO2.out (fun b hb => absurd hb (by simp)), fun h => absurd h (by omega), fun _ => ⟨_, rfl, by rw [hN]; exact HH.out.still HO2.out, by rw [hN, HL.out]; exact own_only HW.out HO2.out (by simp)⟩⟩
            | some b =>
              have hbj : b < j := (bestTo_lt _ _ _ hb).1
              have hbL : b < L.length := by rw [← HN.out]; exact hbj
              have hb' : bestTo (spans L) (spans L).length = some b := by rw [HNS.out]; exact hb
              have hone : one7 (takesTo M k).2 = (((eAt L b).s.take.1.1, true), (spans L).set b (eAt L b).s.take.2) := by rw [← HMM.out]; unfold one7; rw [hb']; dsimp only; rw [sAt_spans]
              have HTK := Lib.hid (show takesTo M (k + 1) = ((takesTo M k).1 ++ [(eAt L b).s.take.1.1], (spans L).set b (eAt L b).s.take.2) by
                have := HMORE.out (by rw [hone])
                rw [hone] at this
                exact this)
              have HMNY := Lib.hid (show manyOf ((spans L).set b (eAt L b).s.take.2) = manyOf M + ((k + 1 : Nat) : Int) by
                have := HM2.out (by rw [hone])
                rw [hone] at this
                dsimp only at this
                rw [this, HMN.out]
                omega)
              have dn : decide ((b : Int) < 0) = false := decide_eq_false (by omega)
              obtain ⟨g, cp', e1⟩ := hr.form (by omega)
              injection e1 with e1 _ e3
              subst e1 e3
              have r0 := own_ptrs hr.row rfl hbL
              have CTK := Lib.hid (rTake_at (hr.get hbL).1)
              have HST2 := Lib.hid (fun W (h1 : RefAt W (eAt L b).p (eAt L b).q (eAt L b).cap (eAt L b).s.take.2) (h2 : Only [(eAt L b).p, (eAt L b).q] wr W) => show QSt W P bl c ((spans L).set b (eAt L b).s.take.2) from by
                obtain ⟨t1, t2, t3, t4⟩ := Sp.take_same (eAt L b).s
                exact QSt.set hbL (hr.step hbL h1 h2 t1 t2 t3 t4) HI.out (fun x hx => Nat.lt_of_lt_of_le (HLB.out x hx) (Nat.le_trans ho.size h2.size)))
              have HBB := Lib.hid (HI.out.e _ (eAt_mem hbL))
              have HO2 := Lib.hid ho
              have hzq2 := ho.size
              have hzq1 := HO.out.size
              clear hb hb' hr ho hbL hone
              unfold bI
              go_wp2_with fail
              with_reducible refine Calls.mono CTK.out ?_
              rintro e w5 ⟨rfl, hr5, ho5⟩
              have hst5 := HST2.out w5 hr5 ho5
              have ho5b : Only bl wq w5 := (HO2.out.of_nil (l := bl)).then_ ho5 (fun x hx => .inl (by
                simp at hx
                rcases hx with rfl | rfl
                · exact HBB.out.1
                · exact HBB.out.2))
              have hown5 := own_only HW.out ho5b (fun x hx hxl => by
                have a1 := own_base HW.out x hx
                have a2 := HLT.out x hxl
                omega)
              have HST5 := Lib.hid hst5
              have hsz5 := ho5.size
              have hk9 := HK.out
              clear hst5 hr5 ho5 CTK HST2
              generalize (eAt L b).s.take.1.1 = x at *
              generalize (eAt L b).s.take.1.2 = xe at *
              generalize (spans L).set b (eAt L b).s.take.2 = M5 at *
              go_wp2_with (at_builtin; refine wpList_append_own _ rfl _ _ 25 rfl w.heap.size 3 i0 (.int .i64 0) 1 8 Try.underlying25 hi hz0 hz1 hz2 rfl (by decide) _ _ _ rfl (hown5.alloc _) ⟨w5.heap.size, 0, none⟩ 1 1 [.int .i64 x] rfl rfl (cell_new1 w5 _ _) (by simp; rfl) (by unfold maxLen; omega) (by omega) (by simp; omega) ?_; intro v1 w6 hown6 hg6 _)
              obtain ⟨A6, c6, rfl, _⟩ := own_slice hown6
              have ho6 : Only (Value.ownBlock (.slice A' k c')).toList w5 w6 := ((Only.refl _ w5).alloc _).grown hg6 (fun b hb => .inl (by have hb' : (Value.ownBlock (.slice A' k c')) = some b := hb; rw [hb']; simp))
              have hst6 := HST5.out.only ho6 (fun b hbl hb => by
                have h1 := own_base hown5 b (by simpa using hb)
                have h2 := HLT.out b hbl
                omega)
              go_roundw
              case rel => exact ⟨k + 1, by omega, ((HO.out.trans ho5b).alloc _).grown hg6 (fun b hb => .inr (own_base hown5 b hb)), by rw [HTK.out]; exact hst6, by rw [HTK.out, List.length_append, HL.out]; rfl, by rw [HTK.out]; exact HMNY.out, by rw [HTK.out, List.map_append]; exact hown6⟩
              case measure => simp [lenV]; omega
      · have e : k = m := by omega
        subst e
        have d1 : decide ((k : Int) < k) = false := decide_eq_false (by omega)
        have HH := Lib.hid hst
        have HL := Lib.hid hl
        clear hst hl hmn gl g0
        go_wp2_with fail
        go_ret2
        exact ⟨ho, fun h => absurd h (by omega), fun _ => ⟨_, rfl, HH.out, by rw [HL.out]; exact hown⟩⟩
end Go.Proofs.Ytlmjelcnldlagaa

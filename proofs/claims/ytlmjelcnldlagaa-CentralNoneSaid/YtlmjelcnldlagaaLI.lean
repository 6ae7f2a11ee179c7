/- Add of the list, walked. -/
import Derived.Test.YtlmjelcnldlagaaLH
set_option linter.unusedVariables false
set_option linter.unusedSimpArgs false
namespace Go.Proofs.Ytlmjelcnldlagaa
open Go.RowKit

theorem own_lt {w : World} {base : Nat} {e : TypeId} {size n : Nat} {v : Value} {xs : List Value} (h : w.ownsRow base e size v n xs) : ∀ k, v.ownBlock = some k → k < w.heap.size := by
  intro k hk
  rcases h.2 with ⟨rfl, _⟩ | ⟨g, cap, cur, rfl, _, hg, _⟩
  · cases hk
  · have : g = k := by injection hk
    subst this
    exact (show Blk w g e cur from hg).lt

theorem Sp.fits_range {x size pages batch : Int} (h : Sp.fits x size pages batch) : 0 ≤ x ∧ x ≤ 1024 ∧ 1 ≤ pages ∧ pages ≤ 4 := by
  obtain ⟨⟨_, _, _, h1, h2, _⟩, h3, h4⟩ := h
  omega

set_option maxRecDepth 100000 in
set_option maxHeartbeats 8000000 in
theorem lAdd_at {w : World} {P : Nat} {bl : List Nat} {c : Cl} {M : List Sp} (h : ListSt w P bl c M) (x : Int) (hx : I64 x) :
    Calls Try.prog 23 #[.pointer (some ⟨P, 0, none⟩), .int .i64 x] w fun e w' => e = .returned (.int .i64 (addE M c x)) ∧ LTurn w P bl w' c (addM M c x) := by
  have CM := Lib.hid (lmade_st h)
  obtain ⟨⟨A, L, hA, rfl, hI⟩, hlt0⟩ := h
  have HA := Lib.hid hA
  have HI := Lib.hid hI
  have HLT := Lib.hid hlt0
  have CN := Lib.hid (New_any w x c.size c.pages c.batch hx.1 hx.2)
  have z0 := hA.blk.cell_ 0 rfl
  have z1 := hA.blk.cell_ 1 rfl
  have z2 := hA.blk.cell_ 2 rfl
  clear hA hI hlt0
  by_cases hf : ¬ Sp.fits x c.size c.pages c.batch
  · have HF := Lib.hid hf
    have E1 : Hid (addE (spans L) c x = 1) := if_pos hf
    have E2 : Hid (addM (spans L) c x = spans L) := by show _ = _; rw [addM, E1.out, if_neg (by decide)]
    clear hf
    go_enter Try.func23, Try.ntmps23
    go_wp2_with (first | (go_at_call 37; with_reducible refine Still.use CM.out ?_))
    refine CN.out.mono ?_
    rintro e w1 ⟨_, h1, ho1⟩
    rw [h1 HF.out]
    clear h1
    go_wp2_with fail
    go_ret
    exact ⟨by rw [E1.out]; rfl, by rw [E2.out]; exact LTurn.same ⟨⟨A, L, HA.out, rfl, HI.out⟩, HLT.out⟩ ho1⟩
  replace hf := Decidable.not_not.1 hf
  obtain ⟨x1, x2, p1, p2⟩ := Sp.fits_range hf
  have HF := Lib.hid hf
  clear hf
  obtain ⟨ad, cp, rfl⟩ := HA.out.slice
  have hn := HA.out.len
  obtain ⟨N, hN⟩ : ∃ N, N = L.length := ⟨_, rfl⟩
  have HN := Lib.hid hN
  rw [← hN] at hn
  have Z3 := Lib.hid (fun W (ho : Only [] w W) => show W.cell? ⟨P, 3, none⟩ = some (.slice ad N cp) by rw [hN]; exact (HA.out.still ho).blk.cell_ 3 rfl)
  have Z1 := Lib.hid (fun W (ho : Only [] w W) => (HA.out.still ho).blk.cell_ 1 rfl)
  clear hN
  go_enter Try.func23, Try.ntmps23
  go_wp2_with (first | (go_at_call 37; with_reducible refine Still.use CM.out ?_))
  refine CN.out.mono ?_
  rintro e w1 ⟨h1, _, ho1⟩
  obtain ⟨p, q, cap, rfl, hsp, hp, hq⟩ := h1 HF.out
  have HSP := Lib.hid hsp
  have y3 := Z3.out w1 ho1
  clear h1 hsp CN z0 z1 z2
  go_wp2_with fail
  go_loopw [31] (fun t wr => ∃ k : Nat, k ≤ N ∧ t = .int .i64 k ∧ Only [] w1 wr ∧ closeTo (spans L) x c.pages k = false) (fun t _ => N - (intOf t).toNat)
  case atStart => exact ⟨0, Nat.zero_le _, rfl, Only.refl _ _, rfl⟩
  case round =>
    obtain ⟨k, hk, rfl, ho, hcl⟩ := hrel
    have HCL := Lib.hid hcl
    have hoW := ho1.trans ho
    have hr := HA.out.still hoW
    clear hcl
    by_cases hlt : k < N
    · have d1 : decide ((k : Int) < N) = true := decide_eq_true (by omega)
      obtain ⟨g, cp', e1⟩ := hr.form (by rw [← HN.out]; omega)
      injection e1 with e1 _ e3
      subst e1 e3
      obtain ⟨q0, q1, q2, qf⟩ := own_ents hr.row rfl (j := k) (by rw [← HN.out]; exact hlt)
      have z1 := Z1.out wr hoW
      have hst : 0 ≤ (eAt L k).s.start ∧ (eAt L k).s.start ≤ 1024 := by
        have g := (hr.get (show k < L.length by rw [← HN.out]; exact hlt)).1.good
        have := g.b1
        have := g.b2
        have := g.p1
        omega
      obtain ⟨s1, s2⟩ := hst
      have HS := Lib.hid (sAt_spans L k)
      by_cases hcls : max (eAt L k).s.start x - min (eAt L k).s.start x < c.pages
      · have E1 : Hid (addE (spans L) c x = 9) := by
          show _ = _
          rw [addE, if_neg (fun h => h HF.out), if_pos (closeTo_true (j := k) (by rw [spans_len, ← HN.out]; exact hlt) (by rw [sAt_spans]; exact hcls))]
        have E2 : Hid (addM (spans L) c x = spans L) := by show _ = _; rw [addM, E1.out, if_neg (by decide)]
        have hoB := hoW.alloc (.cells #[.int .i64 (eAt L k).s.many, .int .i64 (eAt L k).s.start, .pointer (some ⟨(eAt L k).p, 0, none⟩)] 75)
        have z1' := Z1.out _ hoB
        have bE := Blk.new wr 75 #[.int .i64 (eAt L k).s.many, .int .i64 (eAt L k).s.start, .pointer (some ⟨(eAt L k).p, 0, none⟩)]
        generalize (eAt L k).s.start = st at *
        generalize (eAt L k).s.many = mn at *
        clear hr qf
        go_wp2_with fail
        generalize wr.alloc (.cells #[.int .i64 mn, .int .i64 st, .pointer (some ⟨(eAt L k).p, 0, none⟩)] 75) = w2 at *
        have v1 := bE.cell_ 1 rfl
        have d2 : decide (max st x - min st x < c.pages) = true := decide_eq_true hcls
        go_region
        go_wp2_with fail
        go_ret
        exact ⟨by rw [E1.out]; rfl, by rw [E2.out]; exact LTurn.same ⟨⟨_, L, HA.out, rfl, HI.out⟩, HLT.out⟩ hoB.drew⟩
      · have HC2 : Hid (closeTo (spans L) x c.pages (k + 1) = false) := by show _ = _; rw [closeTo, HCL.out, sAt_spans, decide_eq_false hcls]; rfl
        have hoB := hoW.alloc (.cells #[.int .i64 (eAt L k).s.many, .int .i64 (eAt L k).s.start, .pointer (some ⟨(eAt L k).p, 0, none⟩)] 75)
        have hoC := ho.alloc (.cells #[.int .i64 (eAt L k).s.many, .int .i64 (eAt L k).s.start, .pointer (some ⟨(eAt L k).p, 0, none⟩)] 75)
        have z1' := Z1.out _ hoB
        have bE := Blk.new wr 75 #[.int .i64 (eAt L k).s.many, .int .i64 (eAt L k).s.start, .pointer (some ⟨(eAt L k).p, 0, none⟩)]
        generalize (eAt L k).s.start = st at *
        generalize (eAt L k).s.many = mn at *
        clear hr qf
        go_wp2_with fail
        generalize wr.alloc (.cells #[.int .i64 mn, .int .i64 st, .pointer (some ⟨(eAt L k).p, 0, none⟩)] 75) = w2 at *
        have v1 := bE.cell_ 1 rfl
        have d2 : decide (max st x - min st x < c.pages) = false := decide_eq_false (by omega)
        go_region
        go_wp2_with fail
        go_roundw
        case rel => exact ⟨k + 1, by omega, by go_num, hoC.drew, HC2.out⟩
        case measure => simp [intOf]; omega
    · have e : k = N := by omega
      subst e
      have d1 : decide ((k : Int) < k) = false := decide_eq_false (by omega)
      have E1 : Hid (addE (spans L) c x = 0) := by
        show _ = _
        rw [addE, if_neg (fun h => h HF.out), if_neg]
        rw [spans_len, ← HN.out, HCL.out]
        decide
      have E2 : Hid (addM (spans L) c x = (spans L).take (posTo (spans L) x L.length) ++ [Sp.fresh x c.size c.pages c.batch] ++ (spans L).drop (posTo (spans L) x L.length)) := by show _ = _; rw [addM, E1.out, if_pos rfl, spans_len]
      have CB := Lib.hid (bsearch_any hr x ⟨x1, x2⟩)
      have hple := posTo_le (spans L) x L.length
      obtain ⟨S1, S2⟩ := posTo_spec (M := spans L) (x := x) L.length (fun i j hij hj => by
        rw [sAt_spans, sAt_spans]
        have h1 := (hr.apart hij hj).ord
        have h2 := (hr.get (show i < L.length by omega)).1.good.p1
        omega)
      have HS1 := Lib.hid S1
      have HS2 := Lib.hid S2
      obtain ⟨pos, hpos⟩ : ∃ pos, pos = posTo (spans L) x L.length := ⟨_, rfl⟩
      rw [← hpos] at CB hple E2 HS1 HS2
      have HPOS := Lib.hid hple
      have HO := Lib.hid hoW
      clear S1 S2 hr hpos
      have HCLS := Lib.hid (fun j (hj : j < L.length) => closeTo_false HCL.out j (by rw [HN.out]; exact hj))
      rw [← HN.out] at hple CB
      have y3w := Z3.out wr hoW
      go_wp2_with fail
      refine CB.out.mono ?_
      rintro e w3 ⟨ho3, f, rfl⟩
      have hoX := HO.out.trans ho3
      have hA3 := HA.out.still hoX
      have y3 := Z3.out w3 hoX
      have hA3a := hA3.still ((Only.refl [] w3).alloc (.cells #[.int .i64 0, .int .i64 x, .pointer (some ⟨p, 0, none⟩)] 75))
      have CI := Lib.hid (linsert_any (w3.alloc (.cells #[.int .i64 0, .int .i64 x, .pointer (some ⟨p, 0, none⟩)] 75)) 0 _ _ pos _ hA3a.row (entCells_one L) HPOS.out w3.heap.size _ _ _ (Blk.new w3 _ _) (fun e => by
        have := own_lt hA3.row w3.heap.size e
        omega) ⟨rfl, rfl, rfl⟩ (by rw [← HN.out]; omega) (Nat.zero_le _))
      rw [← HN.out] at CI
      have HA3 := Lib.hid hA3a
      clear hA3 hA3a
      go_wp2_with fail
      refine CI.out.mono ?_
      rintro e w4 ⟨v', rfl, hrow, ho4, hob⟩
      rw [HN.out] at hrow ho4 hob
      obtain ⟨A', c', rfl, _⟩ := own_slice hrow
      have hAX := HA3.out
      have nP : P ∉ (Value.ownBlock (.slice ad L.length cp)).toList := fun h => hAX.nA (Option.mem_toList.1 h)
      have bP4 := hAX.blk.only ho4 nP
      have y4 : w4.cell? ⟨P, 3, none⟩ = some (.slice ad k cp) := by rw [HN.out]; exact bP4.cell_ 3 rfl
      have yf := bP4.frozen 3
      have HROW := Lib.hid hrow
      have HO4 := Lib.hid ho4
      have HOB := Lib.hid hob
      have HNP := Lib.hid nP
      have hz3 := hoX.size
      have hz4 := ho4.size
      rw [World.size_alloc] at hz4
      clear hrow ho4 hob nP hAX
      go_wp2_with fail
      go_ret
      have hA := HA.out
      have hAX := HA3.out
      have oS : Only [P] w4 (w4.setCell ⟨P, 3, none⟩ (.slice A' (L.length + 1) c')) := (Only.refl [P] w4).setCell (.inl (by simp)) _
      have hsz5 := oS.size
      have hoT : Only (Value.ownBlock (.slice ad L.length cp)).toList w w4 := (hoX.alloc _).of_nil.trans HO4.out
      have oL : ∀ b, b ∈ (Value.ownBlock (.slice ad L.length cp)).toList → b < w.heap.size := fun b hb => own_lt hA.row b (Option.mem_toList.1 hb)
      have hvP : (Value.ownBlock (.slice A' (L.length + 1) c')) ≠ some P := by
        rcases HOB.out with h | h
        · rw [h]; exact hA.nA
        · rw [h]; intro e; injection e with e; have := hA.blk.lt; rw [World.size_alloc] at e; omega
      have hPlt := hA.blk.lt
      have hspE : SpanAt w4 p q cap (Sp.fresh x c.size c.pages c.batch) := ((HSP.out.only (ho.trans ho3) (by simp) (by simp)).alloc _).only HO4.out (fun hb => by have := oL p hb; omega) (fun hb => by have := oL q hb; omega)
      have hspE5 : SpanAt (w4.setCell ⟨P, 3, none⟩ (.slice A' (L.length + 1) c')) p q cap (Sp.fresh x c.size c.pages c.batch) := hspE.only oS (by simp; omega) (by simp; omega)
      have hspL : ∀ y ∈ L, SpanAt (w4.setCell ⟨P, 3, none⟩ (.slice A' (L.length + 1) c')) y.p y.q y.cap y.s := fun y hy => by
        have hn := hA.ne y hy
        exact ((hA.sp y hy).1.only hoT (fun h => hn.2.2.1 (Option.mem_toList.1 h)) (fun h => hn.2.2.2 (Option.mem_toList.1 h))).only oS (by simpa using hn.1) (by simpa using hn.2.1)
      have hrow5 := own_only HROW.out oS (fun k hk hb => by
        simp at hb
        subst hb
        exact hvP hk)
      have hyp : ∀ y ∈ L, y.p < w.heap.size ∧ y.q < w.heap.size := fun y hy => ⟨(hA.sp y hy).1.ltp, (hA.sp y hy).1.ltq⟩
      have hobE : ∀ b, (Value.ownBlock (.slice A' (L.length + 1) c')) = some b → (Value.ownBlock (.slice ad L.length cp) = some b) ∨ w3.heap.size < b := fun b hb => by
        rcases HOB.out with h | h
        · rw [h] at hb; exact .inl hb
        · rw [h] at hb; injection hb with hb; rw [World.size_alloc] at hb; exact .inr (by omega)
      have hz1 : p < w3.heap.size ∧ q < w3.heap.size := by
        have a1 := HSP.out.ltp
        have a2 := HSP.out.ltq
        have a3 := (ho.trans ho3).size
        omega
      have hnE : p ≠ P ∧ q ≠ P ∧ (Value.ownBlock (.slice A' (L.length + 1) c')) ≠ some p ∧ (Value.ownBlock (.slice A' (L.length + 1) c')) ≠ some q := ⟨by omega, by omega, fun e => (by
          rcases hobE p e with h | h
          · have := own_lt hA.row p h; omega
          · omega), fun e => (by
          rcases hobE q e with h | h
          · have := own_lt hA.row q h; omega
          · omega)⟩
      have hst := hA.insert (w' := w4.setCell ⟨P, 3, none⟩ (.slice A' (L.length + 1) c')) (A' := (.slice A' (L.length + 1) c')) (e := ⟨p, q, cap, Sp.fresh x c.size c.pages c.batch⟩) (k := pos) HPOS.out (bP4.set_ 3 (.slice A' (L.length + 1) c')) hrow5 hspL ⟨hspE5, rfl, rfl, rfl⟩
        (fun y hy => ⟨fun e => (by
          rcases hobE _ e with h | h
          · exact (hA.ne y hy).2.2.1 h
          · have := hyp y hy; omega), fun e => (by
          rcases hobE _ e with h | h
          · exact (hA.ne y hy).2.2.2 h
          · have := hyp y hy; omega)⟩)
        hnE
        hvP (fun y hy => by have := hyp y hy; show y.p ≠ p ∧ y.p ≠ q ∧ y.q ≠ p ∧ y.q ≠ q; omega)
        (fun j hj => by
          have a1 := HS1.out j hj
          have a2 := HCLS.out j (by have := HPOS.out; omega)
          rw [sAt_spans] at a1 a2
          show _ ≤ x
          omega)
        (fun j hj hjl => by
          have a1 := HS2.out j hj hjl
          have a2 := HCLS.out j hjl
          rw [sAt_spans] at a1 a2
          show x + _ ≤ _
          omega)
      have hoF : Only bl w (w4.setCell ⟨P, 3, none⟩ (.slice A' (L.length + 1) c')) := (hoT.mono (fun b hb => HI.out.a b (Option.mem_toList.1 hb))).setCell (.inl HI.out.p) _
      refine ⟨by rw [E1.out]; rfl, hoF, p :: q :: ((Value.ownBlock (.slice A' (L.length + 1) c')).toList ++ bl), ⟨⟨(.slice A' (L.length + 1) c'), _, hst, ?_, ?_⟩, ?_⟩, ?_⟩
      · rw [E2.out]
        simp [spans, List.map_take, List.map_drop]
      · refine ⟨by simp [HI.out.p], fun b hb => by simp [hb], fun y hy => ?_⟩
        simp only [List.mem_append, List.mem_singleton] at hy
        rcases hy with (hy | rfl) | hy
        · have := HI.out.e y (List.mem_of_mem_take hy); simp [this.1, this.2]
        · simp
        · have := HI.out.e y (List.mem_of_mem_drop hy); simp [this.1, this.2]
      · intro b hb
        simp only [List.mem_cons, List.mem_append, Option.mem_toList] at hb
        rcases hb with rfl | rfl | hb | hb
        · exact hspE5.ltp
        · exact hspE5.ltq
        · exact own_lt hrow5 b hb
        · exact Nat.lt_of_lt_of_le (HLT.out b hb) hoF.size
      · intro b hb
        simp only [List.mem_cons, List.mem_append, Option.mem_toList] at hb
        rcases hb with rfl | rfl | hb | hb
        · exact .inr hp
        · exact .inr hq
        · rcases hobE b hb with h | h
          · exact .inl (HI.out.a b h)
          · exact .inr (by omega)
        · exact .inl hb
end Go.Proofs.Ytlmjelcnldlagaa

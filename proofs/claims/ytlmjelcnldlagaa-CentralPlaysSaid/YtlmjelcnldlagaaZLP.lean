/- Clone of the list. -/
import Derived.Test.YtlmjelcnldlagaaZLO
set_option linter.unusedVariables false
set_option linter.unusedSimpArgs false
namespace Go.Proofs.Ytlmjelcnldlagaa
open Go.RowKit

theorem spans_take (L : List En) (k : Nat) : spans (L.take k) = (spans L).take k := by simp [spans, List.map_take]

theorem clone_step {w w1 w2 w3 : World} {X P k g1 k1 p2 q2 cap2 : Nat} {A A' : Value} {c : Cl} {L L' : List En} {bl' : List Nat} {r : Option Nat} {ob : Obj} (hA : ListAt w P A c L) (hk : k < L.length) (hX : w.heap.size ≤ X) (ho : Only [] w w1) (hA' : ListAt w1 X A' c L') (hM' : spans L' = (spans L).take k) (hl : L'.length = k)
    (hI : InBl X A' L' bl') (hlt : ∀ b ∈ bl', b < w1.heap.size) (hbl : ∀ b ∈ bl', w.heap.size ≤ b) (ho2 : Only [] w1.drew w2) (hsp2 : SpanAt w2 p2 q2 cap2 (eAt L k).s) (hp2' : w1.heap.size ≤ p2) (hq2' : w1.heap.size ≤ q2)
    (o3 : Only A'.ownBlock.toList (w2.alloc ob) w3) (hown3 : w3.ownsRow 0 75 3 (.slice (some ⟨g1, 0, none⟩) (k + 1) k1) (k + 1) (entCells L' ++ [.int .i64 (eAt L k).s.many, .int .i64 (eAt L k).s.start, .pointer (some ⟨p2, 0, none⟩)]))
    (hr : r = A'.ownBlock) (hgl : r = some g1 ∨ g1 = (w2.alloc ob).heap.size) (B3 : Blk w3 X 68 #[.int .i64 c.size, .int .i64 c.pages, .int .i64 c.batch, A']) :
    ∃ bl2, Only [] w (w3.setCell ⟨X, 3, none⟩ (.slice (some ⟨g1, 0, none⟩) (k + 1) k1)) ∧ ListSt (w3.setCell ⟨X, 3, none⟩ (.slice (some ⟨g1, 0, none⟩) (k + 1) k1)) X bl2 c ((spans L).take (k + 1)) ∧ ∀ b ∈ bl2, w.heap.size ≤ b := by
  rw [hr] at hgl
  have hXb : X < w1.heap.size := hlt X hI.p
  have z1 := ho.size
  have o12 : Only [] w1 w2 := (Only.refl [] w1).drew.trans ho2
  have z2 := o12.size
  have z3 := o3.size
  rw [World.size_alloc] at z3 hgl
  have hpq := hsp2.ltp
  have hqq := hsp2.ltq
  have hgX : g1 ≠ X := by
    rcases hgl with h | h
    · intro e; subst e; exact hA'.nA h
    · omega
  have hgE : ∀ x ∈ L', g1 ≠ x.p ∧ g1 ≠ x.q := fun x hx => by
    have hb := hI.e x hx
    have b1 := hlt _ hb.1
    have b2 := hlt _ hb.2
    rcases hgl with h | h
    · have := hA'.ne x hx
      exact ⟨fun e => this.2.2.1 (by rw [h, e]), fun e => this.2.2.2 (by rw [h, e])⟩
    · omega
  have hg2 : g1 ≠ p2 ∧ g1 ≠ q2 := by
    rcases hgl with h | h
    · have := hlt g1 (hI.a g1 h)
      omega
    · omega
  have oS : Only [X] w3 (w3.setCell ⟨X, 3, none⟩ (.slice (some ⟨g1, 0, none⟩) (k + 1) k1)) := (Only.refl [X] w3).setCell (.inl (by simp)) _
  have oW3 : Only A'.ownBlock.toList w1 w3 := (o12.alloc ob).of_nil.trans o3
  have hspL : ∀ x ∈ L', SpanAt (w3.setCell ⟨X, 3, none⟩ (.slice (some ⟨g1, 0, none⟩) (k + 1) k1)) x.p x.q x.cap x.s := fun x hx => by
    have hn := hA'.ne x hx
    exact ((hA'.sp x hx).1.only oW3 (fun h => hn.2.2.1 (Option.mem_toList.1 h)) (fun h => hn.2.2.2 (Option.mem_toList.1 h))).only oS (by simpa using hn.1) (by simpa using hn.2.1)
  have hAb : ∀ b, b ∈ A'.ownBlock.toList → b < w1.heap.size := fun b hb => hlt b (hI.a b (Option.mem_toList.1 hb))
  have hsp5 : SpanAt (w3.setCell ⟨X, 3, none⟩ (.slice (some ⟨g1, 0, none⟩) (k + 1) k1)) p2 q2 cap2 (eAt L k).s := ((hsp2.alloc ob).only o3 (fun h => by have := hAb _ h; omega) (fun h => by have := hAb _ h; omega)).only oS (by simp; omega) (by simp; omega)
  have heAt : ∀ j, j < k → (eAt L' j).s = (eAt L j).s := fun j hj => by
    have h1 := congrArg (fun m => sAt m j) hM'
    simp only [sAt_spans] at h1
    rw [h1, ← sAt_spans]
    simp [sAt, List.getD_eq_getElem?_getD, List.getElem?_take, hj]
  have hst := hA'.insert (w' := w3.setCell ⟨X, 3, none⟩ (.slice (some ⟨g1, 0, none⟩) (k + 1) k1)) (A' := .slice (some ⟨g1, 0, none⟩) (k + 1) k1) (e := ⟨p2, q2, cap2, (eAt L k).s⟩) (k := k) (by omega) (B3.set_ 3 _)
    (by
      have e1 : (entCells L').take (k * 3) = entCells L' := List.take_of_length_le (by rw [entCells_len, hl]; exact Nat.le_refl _)
      have e2 : (entCells L').drop (k * 3) = [] := List.drop_of_length_le (by rw [entCells_len, hl]; exact Nat.le_refl _)
      rw [e1, e2, List.append_nil, hl]
      exact own_only hown3 oS (fun b hb hbX => hgX (by
        simp at hbX
        subst hbX
        injection hb)))
    hspL ⟨hsp5, (hA.get hk).2⟩ (fun x hx => by have := hgE x hx; exact ⟨fun e => this.1 (by injection e), fun e => this.2 (by injection e)⟩) (show p2 ≠ X ∧ q2 ≠ X ∧ (Value.ownBlock (.slice (some ⟨g1, 0, none⟩) (k + 1) k1)) ≠ some p2 ∧ (Value.ownBlock (.slice (some ⟨g1, 0, none⟩) (k + 1) k1)) ≠ some q2 from ⟨by omega, by omega, fun e => hg2.1 (by injection e), fun e => hg2.2 (by injection e)⟩) (fun e => hgX (by injection e))
    (fun x hx => by
      have hb := hI.e x hx
      have b1 := hlt _ hb.1
      have b2 := hlt _ hb.2
      show x.p ≠ p2 ∧ x.p ≠ q2 ∧ x.q ≠ p2 ∧ x.q ≠ q2
      omega)
    (fun j hj => by
      rw [heAt j hj]
      have h1 := (hA.apart hj hk).ord
      rw [(hA.get (show j < L.length by omega)).2.2.1] at h1
      exact h1)
    (fun j h1 h2 => by omega)
  rw [List.take_of_length_le (by omega), List.drop_of_length_le (by omega), List.append_nil] at hst
  have hoF : Only [] w (w3.setCell ⟨X, 3, none⟩ (.slice (some ⟨g1, 0, none⟩) (k + 1) k1)) := ((ho.then_ oW3 (fun b hb => .inr (hbl b (hI.a b (Option.mem_toList.1 hb)))))).setCell (.inr hX) _
  have z5 := oS.size
  refine ⟨p2 :: q2 :: g1 :: bl', hoF, ⟨⟨_, _, hst, ?_, ⟨by simp [hI.p], fun b hb => by injection hb with hb; subst hb; simp, fun x hx => ?_⟩⟩, fun b hb => ?_⟩, fun b hb => ?_⟩
  · rw [spans, List.map_append]
    show spans L' ++ [(eAt L k).s] = _
    rw [hM', ← sAt_spans, List.take_succ_eq_append_getElem (by rw [spans_len]; exact hk)]
    simp [sAt, List.getD_eq_getElem?_getD, List.getElem?_eq_getElem (show k < (spans L).length by rw [spans_len]; exact hk)]
  · rcases List.mem_append.1 hx with hx | hx
    · have := hI.e x hx; simp [this.1, this.2]
    · simp at hx; subst hx; simp
  · simp only [List.mem_cons] at hb
    rcases hb with rfl | rfl | rfl | hb
    · exact hsp5.ltp
    · exact hsp5.ltq
    · exact Nat.lt_of_lt_of_le (own_lt hown3 _ rfl) z5
    · have := hlt b hb; omega
  · simp only [List.mem_cons] at hb
    rcases hb with rfl | rfl | rfl | hb
    · omega
    · omega
    · rcases hgl with h | h
      · exact hbl _ (hI.a _ h)
      · omega
    · exact hbl b hb

set_option maxRecDepth 100000 in
set_option maxHeartbeats 8000000 in
theorem lClone_at {w : World} {P : Nat} {bl : List Nat} {c : Cl} {M : List Sp} (h : ListSt w P bl c M) :
    Calls Try.prog 33 #[.pointer (some ⟨P, 0, none⟩)] w fun e w' => Only [] w w' ∧ ∃ X bl', e = .returned (.pointer (some ⟨X, 0, none⟩)) ∧ ListSt w' X bl' c M ∧ ∀ b ∈ bl', w.heap.size ≤ b := by
  have CM := Lib.hid (lmade_st h)
  obtain ⟨⟨A, L, hA, rfl, hI⟩, hlt0⟩ := h
  obtain ⟨ad, cp, rfl⟩ := hA.slice
  have z0 := hA.blk.cell_ 0 rfl
  have z1 := hA.blk.cell_ 1 rfl
  have z2 := hA.blk.cell_ 2 rfl
  have HA := Lib.hid hA
  have hn := hA.len
  have hPlt := hA.blk.lt
  obtain ⟨N, hN⟩ : ∃ N, N = L.length := ⟨_, rfl⟩
  have HN := Lib.hid hN
  have oX := (Only.refl [] w).alloc (.cells #[.int .i64 c.size, .int .i64 c.pages, .int .i64 c.batch, .slice none 0 0] 68)
  have bX := Blk.new w 68 #[.int .i64 c.size, .int .i64 c.pages, .int .i64 c.batch, .slice none 0 0]
  have z3 : (w.alloc (.cells #[.int .i64 c.size, .int .i64 c.pages, .int .i64 c.batch, .slice none 0 0] 68)).cell? ⟨P, 3, none⟩ = some (.slice ad N cp) := by rw [hN]; exact (hA.still oX).blk.cell_ 3 rfl
  have HST0 : Hid (ListSt (w.alloc (.cells #[.int .i64 c.size, .int .i64 c.pages, .int .i64 c.batch, .slice none 0 0] 68)) w.heap.size [w.heap.size] c ((spans L).take 0)) :=
    ⟨⟨.slice none 0 0, [], ⟨bX, hA.one, World.ownsRow_nil _ _ _ _, by simp, by simp, by simp [Value.ownBlock], List.Pairwise.nil⟩, by simp [spans], ⟨by simp, by simp [Value.ownBlock], by simp⟩⟩, fun b hb => by simp at hb; subst hb; exact bX.lt⟩
  rw [← hN] at hn
  obtain ⟨i0, hi, hz0, hz1, hz2⟩ := info_parts info_ent
  clear hA hI hlt0 hN bX
  go_enter Try.func33, Try.ntmps33
  go_wp2_with (first | (go_at_call 37; with_reducible refine Still.use CM.out ?_))
  go_loopw [20] (fun t wr => ∃ (k : Nat) (bl' : List Nat), k ≤ N ∧ t = .int .i64 k ∧ Only [] w wr ∧ ListSt wr w.heap.size bl' c ((spans L).take k) ∧ ∀ b ∈ bl', w.heap.size ≤ b) (fun t _ => N - (intOf t).toNat)
  case atStart => exact ⟨0, [w.heap.size], Nat.zero_le _, rfl, oX, HST0.out, by simp⟩
  case round =>
    obtain ⟨k, bl', hk, rfl, ho, hst, hbl⟩ := hrel
    have hr := HA.out.still ho
    by_cases hlt : k < N
    · have d1 : decide ((k : Int) < N) = true := decide_eq_true (by omega)
      obtain ⟨g, cp', e1⟩ := hr.form (by rw [← HN.out]; omega)
      injection e1 with e1 _ e3
      subst e1 e3
      have hkL : k < L.length := by rw [← HN.out]; exact hlt
      obtain ⟨q0, q1, q2, qf⟩ := own_ents hr.row rfl (j := k) hkL
      obtain ⟨⟨A', L', hA', hM', hI'⟩, hlt'⟩ := hst
      have hL'len : L'.length = k := by
        have := congrArg List.length hM'
        rw [spans_len, List.length_take, spans_len] at this
        omega
      have hoA := (Only.refl [] wr).alloc (.cells #[.int .i64 (eAt L k).s.many, .int .i64 (eAt L k).s.start, .pointer (some ⟨(eAt L k).p, 0, none⟩)] 75)
      have bE := Blk.new wr 75 #[.int .i64 (eAt L k).s.many, .int .i64 (eAt L k).s.start, .pointer (some ⟨(eAt L k).p, 0, none⟩)]
      have hszw : wr.heap.size < (wr.alloc (.cells #[.int .i64 (eAt L k).s.many, .int .i64 (eAt L k).s.start, .pointer (some ⟨(eAt L k).p, 0, none⟩)] 75)).heap.size := by simp
      have hspk := hr.get hkL
      have hA1 := hA'.still hoA
      have hsp1 := hspk.1.only hoA (by simp) (by simp)
      have HSPK := Lib.hid hspk
      have HA1 := Lib.hid hA1
      have HIB := Lib.hid hI'
      have HLB := Lib.hid hlt'
      have HBL := Lib.hid hbl
      have HM' := Lib.hid hM'
      have HL' := Lib.hid hL'len
      have hown' := hA1.row
      rw [hL'len] at hown'
      have HOW := Lib.hid hown'
      have HOLT := Lib.hid (own_lt hA'.row)
      clear hA' hM' hI' hlt' hL'len hr hspk hown' qf hbl
      go_wp2_with fail
      generalize (wr.alloc (.cells #[.int .i64 (eAt L k).s.many, .int .i64 (eAt L k).s.start, .pointer (some ⟨(eAt L k).p, 0, none⟩)] 75)) = w1 at *
      have CC := Lib.hid (Clone_at hsp1.drew)
      have x3 := hA1.blk.cell_ 3 rfl
      have e0 := bE.cell_ 0 rfl
      have e1 := bE.cell_ 1 rfl
      have e2 := bE.cell_ 2 rfl
      have HBE := Lib.hid bE
      clear hsp1 hA1
      go_region_law (first
        | (go_simp; go_at_call 55; refine CC.out.mono ?_; rintro e w2 ⟨p2, q2, cap2, rfl, hsp2, hp2, hq2, ho2⟩; have y3 := (HA1.out.blk.drew.only ho2 (by simp)).cell_ 3 rfl; have y0 := (HBE.out.drew.only ho2 (by simp)).cell_ 0 rfl; have y1 := (HBE.out.drew.only ho2 (by simp)).cell_ 1 rfl; have y3a := ((HA1.out.blk.drew.only ho2 (by simp)).alloc (.cells #[.int .i64 (eAt L k).s.many, .int .i64 (eAt L k).s.start, .pointer (some ⟨p2, 0, none⟩)] 75)).cell_ 3 rfl; have hown2 := own_only (own_drewN HOW.out 1) ho2 (by simp); have hsz2 := ho2.size; have HSP2 := Lib.hid hsp2; have HO2 := Lib.hid ho2; clear hsp2 ho2)
        | (refine step_append_lies _ rfl (.tmp 28) (.tmp 35) 66 rfl 0 75 i0 (.agg #[.int .i64 0, .int .i64 0, .pointer none]) 3 24 Try.underlying66 hi hz0 hz1 hz2 rfl (by decide) _ _ _ rfl (hown2.alloc _) ⟨w2.heap.size, 0, none⟩ 1 1 [.int .i64 (eAt L k).s.many, .int .i64 (eAt L k).s.start, .pointer (some ⟨p2, 0, none⟩)] rfl rfl (news_new w2 _ _) (by simp [Value.oneCell']) (by omega) (by unfold maxLen; omega) (by omega) (Nat.zero_le _) _ rfl ?_; intro g1 k1 w3 hown3 hg3 hgl3 hgt3; have o3 : Only A'.ownBlock.toList (w2.alloc (.cells #[.int .i64 (eAt L k).s.many, .int .i64 (eAt L k).s.start, .pointer (some ⟨p2, 0, none⟩)] 75)) w3 := (Only.refl _ _).grown hg3 (fun b hb => .inl (Option.mem_toList.2 (show A'.ownBlock = some b from hb))); have B3 := ((HA1.out.blk.drew.only HO2.out (by simp)).alloc (.cells #[.int .i64 (eAt L k).s.many, .int .i64 (eAt L k).s.start, .pointer (some ⟨p2, 0, none⟩)] 75)).only o3 (fun h => HA1.out.nA (Option.mem_toList.1 h)); have x33 := B3.cell_ 3 rfl; have f33 := B3.frozen 3))
      all_goals
        go_wp2
        go_roundw
        case rel =>
          obtain ⟨bl2, a1, a2, a3⟩ := clone_step HA.out hkL (Nat.le_refl _) (ho.trans hoA) HA1.out HM'.out HL'.out HIB.out (fun b hb => Nat.lt_trans (HLB.out b hb) hszw) HBL.out HO2.out HSP2.out hp2 hq2 o3 hown3 rfl hgl3 B3
          exact ⟨k + 1, bl2, by omega, by go_num, a1, a2, a3⟩
        case measure => simp [intOf]; omega
    · have e : k = N := by omega
      subst e
      have d1 : decide ((k : Int) < k) = false := decide_eq_false (by omega)
      have HT := Lib.hid hst
      clear hr hst
      go_wp2_with fail
      go_ret
      refine ⟨ho, w.heap.size, bl', rfl, ?_, hbl⟩
      have := HT.out
      rwa [List.take_of_length_le (by rw [spans_len, ← HN.out]; exact Nat.le_refl _)] at this
end Go.Proofs.Ytlmjelcnldlagaa

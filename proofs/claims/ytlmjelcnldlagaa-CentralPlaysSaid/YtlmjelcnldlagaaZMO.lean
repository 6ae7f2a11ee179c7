/- The reference's list: a span put in; Clone. -/
import Derived.Test.YtlmjelcnldlagaaZMN
set_option linter.unusedVariables false
set_option linter.unusedSimpArgs false
namespace Go.Proofs.Ytlmjelcnldlagaa
open Go.RowKit

theorem ptrs_take (L : List En) (k : Nat) : ptrs (L.take k) = (ptrs L).take k ∧ ptrs (L.drop k) = (ptrs L).drop k := by simp [ptrs, List.map_take, List.map_drop]

/-- A span put in. -/
theorem QAt.insert {w w' : World} {P : Nat} {A A' : Value} {c : Cl} {L : List En} {e : En} {k : Nat} (h : QAt w P A c L) (hk : k ≤ L.length)
    (hblk : Blk w' P 97 #[.int .i64 c.size, .int .i64 c.pages, .int .i64 c.batch, A']) (hrow : w'.ownsRow 0 99 1 A' (L.length + 1) ((ptrs L).take k ++ [.pointer (some ⟨e.p, 0, none⟩)] ++ (ptrs L).drop k))
    (hsp : ∀ x ∈ L, RefAt w' x.p x.q x.cap x.s) (he : RefAt w' e.p e.q e.cap e.s ∧ e.s.of c) (hneL : ∀ x ∈ L, A'.ownBlock ≠ some x.p ∧ A'.ownBlock ≠ some x.q) (hneE : e.p ≠ P ∧ e.q ≠ P ∧ A'.ownBlock ≠ some e.p ∧ A'.ownBlock ≠ some e.q) (hnA : A'.ownBlock ≠ some P)
    (hd : ∀ x ∈ L, x.p ≠ e.p ∧ x.p ≠ e.q ∧ x.q ≠ e.p ∧ x.q ≠ e.q) (h1 : ∀ j, j < k → (eAt L j).s.start + c.pages ≤ e.s.start) (h2 : ∀ j, k ≤ j → j < L.length → e.s.start + c.pages ≤ (eAt L j).s.start) :
    QAt w' P A' c (L.take k ++ [e] ++ L.drop k) := by
  have hm : ∀ x, x ∈ L.take k ++ [e] ++ L.drop k → x ∈ L ∨ x = e := fun x hx => by
    simp at hx
    rcases hx with hx | rfl | hx
    · exact .inl (List.mem_of_mem_take hx)
    · exact .inr rfl
    · exact .inl (List.mem_of_mem_drop hx)
  refine ⟨hblk, h.one, ?_, fun x hx => ?_, fun x hx => ?_, hnA, ?_⟩
  · obtain ⟨t1, t2⟩ := ptrs_take L k
    rw [show (L.take k ++ [e] ++ L.drop k).length = L.length + 1 by simp; omega, ptrs_append, ptrs_append, t1, t2]
    exact hrow
  · rcases hm x hx with h1 | rfl
    · exact ⟨hsp x h1, (h.sp x h1).2⟩
    · exact he
  · rcases hm x hx with h1 | rfl
    · have := h.ne x h1
      exact ⟨this.1, this.2.1, hneL x h1⟩
    · exact hneE
  · have hap := h.ap
    rw [← List.take_append_drop k L, List.pairwise_append] at hap
    rw [List.append_assoc, List.pairwise_append, List.pairwise_append]
    refine ⟨hap.1, ⟨List.pairwise_singleton _ _, hap.2.1, fun a ha b hb => ?_⟩, fun a ha b hb => ?_⟩
    · simp at ha
      subst ha
      obtain ⟨i, i1, i2, rfl⟩ := mem_drop hb
      have := hd _ (eAt_mem i2)
      exact ⟨by rw [he.2.2.1]; exact h2 i i1 i2, Ne.symm this.1, Ne.symm this.2.2.1, Ne.symm this.2.1, Ne.symm this.2.2.2⟩
    · rcases List.mem_append.1 hb with hb | hb
      · simp at hb
        subst hb
        obtain ⟨i, i1, i2, rfl⟩ := mem_take ha
        have := hd _ (eAt_mem i2)
        have hof := (h.get i2).2.2.1
        exact ⟨by rw [hof]; exact h1 i i1, this.1, this.2.1, this.2.2.1, this.2.2.2⟩
      · exact hap.2.2 a ha b hb

/-- One round of Clone: a cloned span is appended. -/
theorem qclone_step {w w1 w2 w3 : World} {X P k g1 k1 p2 q2 cap2 : Nat} {A A' : Value} {c : Cl} {L L' : List En} {bl' : List Nat} {ob : Obj} (hA : QAt w P A c L) (hk : k < L.length) (hX : w.heap.size ≤ X) (ho : Only [] w w1) (hA' : QAt w1 X A' c L') (hM' : spans L' = (spans L).take k) (hl : L'.length = k)
    (hI : InBl X A' L' bl') (hlt : ∀ b ∈ bl', b < w1.heap.size) (hbl : ∀ b ∈ bl', w.heap.size ≤ b) (ho2 : Only [] w1 w2) (hsp2 : RefAt w2 p2 q2 cap2 (eAt L k).s) (hpq2 : p2 ≠ q2) (hp2' : w1.heap.size ≤ p2) (hq2' : w1.heap.size ≤ q2)
    (o3 : Only A'.ownBlock.toList (w2.alloc ob) w3) (hown3 : w3.ownsRow 0 99 1 (.slice (some ⟨g1, 0, none⟩) (k + 1) k1) (k + 1) (ptrs L' ++ [.pointer (some ⟨p2, 0, none⟩)]))
    (hgl : A'.ownBlock = some g1 ∨ g1 = (w2.alloc ob).heap.size) (B3 : Blk w3 X 97 #[.int .i64 c.size, .int .i64 c.pages, .int .i64 c.batch, A']) :
    ∃ bl2, Only [] w (w3.setCell ⟨X, 3, none⟩ (.slice (some ⟨g1, 0, none⟩) (k + 1) k1)) ∧ QSt (w3.setCell ⟨X, 3, none⟩ (.slice (some ⟨g1, 0, none⟩) (k + 1) k1)) X bl2 c ((spans L).take (k + 1)) ∧ ∀ b ∈ bl2, w.heap.size ≤ b := by
  have hXb : X < w1.heap.size := hlt X hI.p
  have z1 := ho.size
  have z2 := ho2.size
  have z3 := o3.size
  rw [World.size_alloc] at z3 hgl
  have hpq := hsp2.ltp
  have hqq := hsp2.ltq
  have hgX : g1 ≠ X := by
    rcases hgl with h | h
    · intro e; subst e; exact hA'.nA h
    · omega
  have hgE : ∀ x ∈ L', g1 ≠ x.p ∧ g1 ≠ x.q := fun x hx => by
    have hb := hI.e x hx
    have b1 := hlt _ hb.1
    have b2 := hlt _ hb.2
    rcases hgl with h | h
    · have := hA'.ne x hx
      exact ⟨fun e => this.2.2.1 (by rw [h, e]), fun e => this.2.2.2 (by rw [h, e])⟩
    · omega
  have hg2 : g1 ≠ p2 ∧ g1 ≠ q2 := by
    rcases hgl with h | h
    · have := hlt g1 (hI.a g1 h)
      omega
    · omega
  have oS : Only [X] w3 (w3.setCell ⟨X, 3, none⟩ (.slice (some ⟨g1, 0, none⟩) (k + 1) k1)) := (Only.refl [X] w3).setCell (.inl (by simp)) _
  have oW3 : Only A'.ownBlock.toList w1 w3 := (ho2.alloc ob).of_nil.trans o3
  have hspL : ∀ x ∈ L', RefAt (w3.setCell ⟨X, 3, none⟩ (.slice (some ⟨g1, 0, none⟩) (k + 1) k1)) x.p x.q x.cap x.s := fun x hx => by
    have hn := hA'.ne x hx
    exact ((hA'.sp x hx).1.only oW3 (fun h => hn.2.2.1 (Option.mem_toList.1 h)) (fun h => hn.2.2.2 (Option.mem_toList.1 h))).only oS (by simpa using hn.1) (by simpa using hn.2.1)
  have hAb : ∀ b, b ∈ A'.ownBlock.toList → b < w1.heap.size := fun b hb => hlt b (hI.a b (Option.mem_toList.1 hb))
  have hsp5 : RefAt (w3.setCell ⟨X, 3, none⟩ (.slice (some ⟨g1, 0, none⟩) (k + 1) k1)) p2 q2 cap2 (eAt L k).s := ((hsp2.alloc ob).only o3 (fun h => by have := hAb _ h; omega) (fun h => by have := hAb _ h; omega)).only oS (by simp; omega) (by simp; omega)
  have heAt : ∀ j, j < k → (eAt L' j).s = (eAt L j).s := fun j hj => by
    have h1 := congrArg (fun m => sAt m j) hM'
    simp only [sAt_spans] at h1
    rw [h1, ← sAt_spans]
    simp [sAt, List.getD_eq_getElem?_getD, List.getElem?_take, hj]
  have hst := hA'.insert (w' := w3.setCell ⟨X, 3, none⟩ (.slice (some ⟨g1, 0, none⟩) (k + 1) k1)) (A' := .slice (some ⟨g1, 0, none⟩) (k + 1) k1) (e := ⟨p2, q2, cap2, (eAt L k).s⟩) (k := k) (by omega) (B3.set_ 3 _)
    (by
      have e1 : (ptrs L').take k = ptrs L' := List.take_of_length_le (by rw [ptrs_len, hl]; exact Nat.le_refl _)
      have e2 : (ptrs L').drop k = [] := List.drop_of_length_le (by rw [ptrs_len, hl]; exact Nat.le_refl _)
      rw [e1, e2, List.append_nil, hl]
      exact own_only hown3 oS (fun b hb hbX => hgX (by
        simp at hbX
        subst hbX
        injection hb)))
    hspL ⟨hsp5, (hA.get hk).2⟩ (fun x hx => by have := hgE x hx; exact ⟨fun e => this.1 (by injection e), fun e => this.2 (by injection e)⟩) (show p2 ≠ X ∧ q2 ≠ X ∧ (Value.ownBlock (.slice (some ⟨g1, 0, none⟩) (k + 1) k1)) ≠ some p2 ∧ (Value.ownBlock (.slice (some ⟨g1, 0, none⟩) (k + 1) k1)) ≠ some q2 from ⟨by omega, by omega, fun e => hg2.1 (by injection e), fun e => hg2.2 (by injection e)⟩) (fun e => hgX (by injection e))
    (fun x hx => by
      have hb := hI.e x hx
      have b1 := hlt _ hb.1
      have b2 := hlt _ hb.2
      show x.p ≠ p2 ∧ x.p ≠ q2 ∧ x.q ≠ p2 ∧ x.q ≠ q2
      omega)
    (fun j hj => by
      rw [heAt j hj]
      have h1 := (hA.apart hj hk).ord
      rw [(hA.get (show j < L.length by omega)).2.2.1] at h1
      exact h1)
    (fun j h1 h2 => by omega)
  rw [List.take_of_length_le (by omega), List.drop_of_length_le (by omega), List.append_nil] at hst
  have hoF : Only [] w (w3.setCell ⟨X, 3, none⟩ (.slice (some ⟨g1, 0, none⟩) (k + 1) k1)) := ((ho.then_ oW3 (fun b hb => .inr (hbl b (hI.a b (Option.mem_toList.1 hb)))))).setCell (.inr hX) _
  have z5 := oS.size
  refine ⟨p2 :: q2 :: g1 :: bl', hoF, ⟨⟨_, _, hst, ?_, ⟨by simp [hI.p], fun b hb => by injection hb with hb; subst hb; simp, fun x hx => ?_⟩⟩, fun b hb => ?_⟩, fun b hb => ?_⟩
  · rw [spans, List.map_append]
    show spans L' ++ [(eAt L k).s] = _
    rw [hM', ← sAt_spans, List.take_succ_eq_append_getElem (by rw [spans_len]; exact hk)]
    simp [sAt, List.getD_eq_getElem?_getD, List.getElem?_eq_getElem (show k < (spans L).length by rw [spans_len]; exact hk)]
  · rcases List.mem_append.1 hx with hx | hx
    · have := hI.e x hx; simp [this.1, this.2]
    · simp at hx; subst hx; simp
  · simp only [List.mem_cons] at hb
    rcases hb with rfl | rfl | rfl | hb
    · exact hsp5.ltp
    · exact hsp5.ltq
    · exact Nat.lt_of_lt_of_le (own_lt hown3 _ rfl) z5
    · have := hlt b hb; omega
  · simp only [List.mem_cons] at hb
    rcases hb with rfl | rfl | rfl | hb
    · omega
    · omega
    · rcases hgl with h | h
      · exact hbl _ (hI.a _ h)
      · omega
    · exact hbl b hb

set_option maxRecDepth 100000 in
set_option maxHeartbeats 8000000 in
theorem qClone_at {w : World} {P : Nat} {bl : List Nat} {c : Cl} {M : List Sp} (h : QSt w P bl c M) :
    Calls Try.prog 34 #[.pointer (some ⟨P, 0, none⟩)] w fun e w' => Only [] w w' ∧ ∃ X bl', e = .returned (.pointer (some ⟨X, 0, none⟩)) ∧ QSt w' X bl' c M ∧ ∀ b ∈ bl', w.heap.size ≤ b := by
  have CM := Lib.hid (qmade_st h)
  obtain ⟨⟨A, L, hA, rfl, hI⟩, hlt0⟩ := h
  obtain ⟨ad, cp, rfl⟩ := hA.slice
  have z0 := hA.blk.cell_ 0 rfl
  have z1 := hA.blk.cell_ 1 rfl
  have z2 := hA.blk.cell_ 2 rfl
  have HA := Lib.hid hA
  have hn := hA.len
  obtain ⟨N, hN⟩ : ∃ N, N = L.length := ⟨_, rfl⟩
  have HN := Lib.hid hN
  have oX := (Only.refl [] w).alloc (.cells #[.int .i64 c.size, .int .i64 c.pages, .int .i64 c.batch, .slice none 0 0] 97)
  have bX := Blk.new w 97 #[.int .i64 c.size, .int .i64 c.pages, .int .i64 c.batch, .slice none 0 0]
  have HST0 : Hid (QSt (w.alloc (.cells #[.int .i64 c.size, .int .i64 c.pages, .int .i64 c.batch, .slice none 0 0] 97)) w.heap.size [w.heap.size] c ((spans L).take 0)) :=
    ⟨⟨.slice none 0 0, [], ⟨bX, hA.one, World.ownsRow_nil _ _ _ _, by simp, by simp, by simp [Value.ownBlock], List.Pairwise.nil⟩, by simp [spans], ⟨by simp, by simp [Value.ownBlock], by simp⟩⟩, fun b hb => by simp at hb; subst hb; exact bX.lt⟩
  rw [← hN] at hn
  obtain ⟨j0, hj, hy0, hy1, hy2⟩ := info_parts info_rp
  clear hA hI hlt0 hN bX
  go_enter Try.func34, Try.ntmps34
  go_wp2_with (first | (go_at_call 56; with_reducible refine Still.use CM.out ?_))
  go_loopw [4] (fun t wr => ∃ (k : Nat) (bl' : List Nat), k ≤ N ∧ t = .int .i64 k ∧ Only [] w wr ∧ QSt wr w.heap.size bl' c ((spans L).take k) ∧ ∀ b ∈ bl', w.heap.size ≤ b) (fun t _ => N - (intOf t).toNat)
  case atStart => exact ⟨0, [w.heap.size], Nat.zero_le _, rfl, oX, HST0.out, by simp⟩
  case round =>
    obtain ⟨k, bl', hk, rfl, ho, hst, hbl⟩ := hrel
    have hr := HA.out.still ho
    have z3 := hr.blk.cell_ 3 rfl
    rw [← HN.out] at z3
    by_cases hlt : k < N
    · have d1 : decide ((k : Int) < N) = true := decide_eq_true (by omega)
      have hkL : k < L.length := by rw [← HN.out]; exact hlt
      obtain ⟨g, cp', e1⟩ := hr.form (by omega)
      injection e1 with e1 _ e3
      subst e1 e3
      have q0 := own_ptrs hr.row rfl hkL
      have CC := Lib.hid (rClone_at (hr.get hkL).1)
      obtain ⟨⟨A', L', hA', hM', hI'⟩, hlt'⟩ := hst
      have hL'len : L'.length = k := by
        have := congrArg List.length hM'
        rw [spans_len, List.length_take, spans_len] at this
        omega
      have HA1 := Lib.hid hA'
      have HIB := Lib.hid hI'
      have HLB := Lib.hid hlt'
      have HBL := Lib.hid hbl
      have HM' := Lib.hid hM'
      have HL' := Lib.hid hL'len
      have hown' := hA'.row
      rw [hL'len] at hown'
      have HOW := Lib.hid hown'
      have HO := Lib.hid ho
      obtain ⟨pp, hpp⟩ : ∃ p, p = (eAt L k).p := ⟨_, rfl⟩
      rw [← hpp] at q0 CC
      clear hA' hM' hI' hlt' hL'len hr hown' hbl hpp
      go_wp2_with fail
      with_reducible refine Calls.mono CC.out ?_
      rintro e w2 ⟨p2, q2, cap2, rfl, hsp2, hp2, hq2, ho2⟩
      have HSP2 := Lib.hid hsp2
      have HO2 := Lib.hid ho2
      have y3 := (HA1.out.blk.only ho2 (by simp)).cell_ 3 rfl
      have hown2 := own_only HOW.out ho2 (by simp)
      clear hsp2 ho2 CC
      go_wp2_with (at_builtin; refine wpList_append_lies _ rfl _ _ 95 rfl 0 99 j0 (.pointer none) 1 8 Try.underlying95 hj hy0 hy1 hy2 rfl (by decide) _ _ _ rfl (hown2.alloc _) ⟨w2.heap.size, 0, none⟩ 1 1 [.pointer (some ⟨p2, 0, none⟩)] rfl rfl (cell_new1 w2 _ _) (by simp [Value.oneCell']) (by decide) (by unfold maxLen; omega) (by omega) (Nat.zero_le _) _ rfl ?_; intro g1 k1 w3 hown3 hg3 hgl3 hgt3; have o3 : Only A'.ownBlock.toList (w2.alloc (.cells #[.pointer (some ⟨p2, 0, none⟩)] 99)) w3 := (Only.refl _ _).grown hg3 (fun b hb => .inl (Option.mem_toList.2 hb)); have B3 := ((HA1.out.blk.only HO2.out (by simp)).alloc (.cells #[.pointer (some ⟨p2, 0, none⟩)] 99)).only o3 (fun h => HA1.out.nA (Option.mem_toList.1 h)); have x33 := B3.cell_ 3 rfl; have f33 := B3.frozen 3)
      go_roundw
      case rel =>
        obtain ⟨bl2, a1, a2, a3⟩ := qclone_step HA.out hkL (Nat.le_refl _) HO.out HA1.out HM'.out HL'.out HIB.out HLB.out HBL.out HO2.out HSP2.out HSP2.out.ne hp2 hq2 o3 hown3 hgl3 B3
        exact ⟨k + 1, bl2, by omega, by go_num, a1, a2, a3⟩
      case measure => simp [intOf]; omega
    · have e : k = N := by omega
      subst e
      have d1 : decide ((k : Int) < k) = false := decide_eq_false (by omega)
      have HT := Lib.hid hst
      clear hr hst
      go_wp2_with fail
      go_ret
      refine ⟨ho, w.heap.size, bl', rfl, ?_, hbl⟩
      have := HT.out
      rwa [List.take_of_length_le (by rw [spans_len, ← HN.out]; exact Nat.le_refl _)] at this
end Go.Proofs.Ytlmjelcnldlagaa

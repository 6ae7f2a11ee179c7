/- Take of the list. -/
import Derived.Test.YtlmjelcnldlagaaLD
set_option linter.unusedVariables false
set_option linter.unusedSimpArgs false
namespace Go.Proofs.Ytlmjelcnldlagaa
open Go.RowKit

/-- k objects, one after the other, or as many as there are. -/
def takesTo (M : List Sp) : Nat → List Int × List Sp
  | 0 => ([], M)
  | k + 1 => if (one7 (takesTo M k).2).1.2 = true then ((takesTo M k).1 ++ [(one7 (takesTo M k).2).1.1], (one7 (takesTo M k).2).2) else takesTo M k
theorem takesTo_more {M : List Sp} {k : Nat} (h : (one7 (takesTo M k).2).1.2 = true) : takesTo M (k + 1) = ((takesTo M k).1 ++ [(one7 (takesTo M k).2).1.1], (one7 (takesTo M k).2).2) := if_pos h
theorem takesTo_stop {M : List Sp} {k : Nat} (h : (one7 (takesTo M k).2).1.2 = false) (j : Nat) : takesTo M (k + j) = takesTo M k := by
  induction j with
  | zero => rfl
  | succ j ih =>
    rw [← Nat.add_assoc, takesTo, if_neg]
    · exact ih
    · rw [ih, h]; decide
theorem takesTo_len (M : List Sp) (k : Nat) : (takesTo M k).1.length ≤ k := by
  induction k with
  | zero => exact Nat.le_refl _
  | succ k ih =>
    rw [takesTo]
    split
    · rw [List.length_append]; simp; omega
    · omega

theorem sAt_set {M : List Sp} {j : Nat} (s : Sp) (h : j < M.length) (i : Nat) : sAt (M.set j s) i = if j = i then s else sAt M i := by
  simp only [sAt, List.getD_eq_getElem?_getD, List.getElem?_set]
  by_cases h1 : j = i
  · subst h1; simp [h]
  · simp [h1]
theorem manyTo_set {M : List Sp} {b : Nat} (s : Sp) (h : b < M.length) (k : Nat) : manyTo (M.set b s) k = manyTo M k + (if b < k then s.many - (sAt M b).many else 0) := by
  induction k with
  | zero => simp [manyTo]
  | succ k ih =>
    rw [manyTo, ih, manyTo, sAt_set s h]
    by_cases h1 : b = k
    · subst h1
      rw [if_neg (by omega), if_pos rfl, if_pos (by omega)]
      omega
    · rw [if_neg h1]
      by_cases h2 : b < k
      · rw [if_pos h2, if_pos (by omega)]; omega
      · rw [if_neg h2, if_neg (by omega)]; omega
/-- All spans are good, and of the class. -/
structure GoodL (c : Cl) (M : List Sp) : Prop where
  ok : c.ok
  sp : ∀ j, j < M.length → (sAt M j).Good ∧ (sAt M j).of c
  ord : ∀ i j, i < j → j < M.length → (sAt M i).start + (sAt M i).pages ≤ (sAt M j).start
  len : M.length ≤ 1024
theorem ListAt.goodL {w : World} {P : Nat} {A : Value} {c : Cl} {L : List En} (h : ListAt w P A c L) : GoodL c (spans L) :=
  ⟨h.one, fun j hj => by rw [spans_len] at hj; rw [sAt_spans]; exact ⟨(h.get hj).1.good, (h.get hj).2⟩, fun i j hij hj => by rw [spans_len] at hj; rw [sAt_spans, sAt_spans]; exact (h.apart hij hj).ord, by rw [spans_len]; exact h.len⟩
theorem ListSt.goodL {w : World} {P : Nat} {bl : List Nat} {c : Cl} {M : List Sp} (h : ListSt w P bl c M) : GoodL c M := by
  obtain ⟨⟨A, L, h1, rfl, h3⟩, h4⟩ := h
  exact h1.goodL
theorem GoodL.many {c : Cl} {M : List Sp} (h : GoodL c M) (k : Nat) (hk : k ≤ M.length) : 0 ≤ manyTo M k ∧ manyTo M k ≤ 128 * k := by
  induction k with
  | zero => simp [manyTo]
  | succ k ih =>
    have h1 := ih (by omega)
    have h2 := (h.sp k (by omega)).1.many
    have h3 := (h.sp k (by omega)).1.len
    rw [manyTo]
    omega
theorem GoodL.many_le {c : Cl} {M : List Sp} (h : GoodL c M) : 0 ≤ manyOf M ∧ manyOf M ≤ 131072 := by
  have h1 := h.many M.length (Nat.le_refl _)
  have h2 := h.len
  show 0 ≤ manyTo M M.length ∧ manyTo M M.length ≤ 131072
  omega
theorem one7_some {M : List Sp} (h : (one7 M).1.2 = true) : ∃ b, bestTo M M.length = some b ∧ one7 M = (((sAt M b).take.1.1, true), M.set b (sAt M b).take.2) := by
  unfold one7 at h ⊢
  cases hb : bestTo M M.length with
  | none => rw [hb] at h; cases h
  | some b => exact ⟨b, rfl, rfl⟩
theorem one7_none {M : List Sp} (h : (one7 M).1.2 = false) : bestTo M M.length = none ∧ one7 M = ((0, false), M) := by
  unfold one7 at h ⊢
  cases hb : bestTo M M.length with
  | none => exact ⟨rfl, rfl⟩
  | some b => rw [hb] at h; cases h
theorem GoodL.one_many {c : Cl} {M : List Sp} (h : GoodL c M) (h1 : (one7 M).1.2 = true) : manyOf (one7 M).2 = manyOf M + 1 := by
  obtain ⟨b, hb, he⟩ := one7_some h1
  obtain ⟨hl, hr⟩ := bestTo_lt _ _ _ hb
  obtain ⟨kk, i1, i2, i3, i4⟩ := Sp.take_room (h.sp b hl).1 hr
  rw [he]
  dsimp only [manyOf]
  rw [List.length_set, manyTo_set _ hl, if_pos hl, i4]
  show _ + ((sAt M b).many + (1 - (sAt M b).st.getD kk 0) - (sAt M b).many) = _
  rw [i3]
  omega
def lenV : Value → Nat
  | .slice _ n _ => n
  | _ => 0

theorem lmade_st {w : World} {P : Nat} {bl : List Nat} {c : Cl} {M : List Sp} (h : ListSt w P bl c M) : Still Try.prog 37 #[.pointer (some ⟨P, 0, none⟩)] w (.bool true) := by
  obtain ⟨⟨A, L, h1, rfl, h3⟩, h4⟩ := h
  exact lmade_at h1

set_option maxRecDepth 100000 in
set_option maxHeartbeats 4000000 in
theorem lTake_at {w : World} {P : Nat} {bl : List Nat} {c : Cl} {M : List Sp} (h : ListSt w P bl c M) (many : Int) :
    Calls Try.prog 21 #[.pointer (some ⟨P, 0, none⟩), .int .i64 many] w fun e w' => Only bl w w' ∧ (many < 0 → e = .returned (.tuple #[.slice none 0 0, .int .i64 1]) ∧ ListSt w' P bl c M) ∧
      (0 ≤ many → ∃ v, e = .returned (.tuple #[v, .int .i64 0]) ∧ ListSt w' P bl c (takesTo M many.toNat).2 ∧ w'.ownsRow w.heap.size 3 1 v (takesTo M many.toNat).1.length ((takesTo M many.toNat).1.map (Value.int .i64))) := by
  have CM := Lib.hid (lmade_st h)
  by_cases hm : many < 0
  · have d0 : decide (many < 0) = true := decide_eq_true hm
    have HM := Lib.hid hm
    have HS := Lib.hid h
    clear hm h
    go_enter Try.func21, Try.ntmps21
    go_wp2_with (first | (go_at_call 37; with_reducible refine Still.use CM.out ?_))
    go_ret2
    exact ⟨Only.refl _ _, fun _ => ⟨rfl, HS.out⟩, fun h => absurd h (by have := HM.out; omega)⟩
  · have d0 : decide (many < 0) = false := decide_eq_false hm
    obtain ⟨m, rfl⟩ : ∃ m : Nat, many = m := ⟨many.toNat, by omega⟩
    rw [Int.toNat_natCast]
    have HS := Lib.hid h
    have G0 := Lib.hid h.goodL.many_le
    obtain ⟨i0, hi, hz0, hz1, hz2⟩ := info_parts info_int
    have HLT := Lib.hid h.lt
    clear hm h
    go_enter Try.func21, Try.ntmps21
    go_wp2_with (first | (go_at_call 37; with_reducible refine Still.use CM.out ?_))
    go_loopw [6] (fun u wr => ∃ k : Nat, k ≤ m ∧ Only bl w wr ∧ ListSt wr P bl c (takesTo M k).2 ∧ (takesTo M k).1.length = k ∧ manyOf (takesTo M k).2 = manyOf M + k ∧ wr.ownsRow w.heap.size 3 1 u k ((takesTo M k).1.map (Value.int .i64))) (fun u _ => m - lenV u)
    case atStart => exact ⟨0, Nat.zero_le _, Only.refl _ _, HS.out, rfl, by simp [takesTo], World.ownsRow_nil _ _ _ _⟩
    case round =>
      obtain ⟨k, hk, ho, hst, hl, hmn, hown⟩ := hrel
      obtain ⟨A', c', rfl, _⟩ := own_slice hown
      have gl := hst.goodL.many_le
      have g0 := G0.out
      by_cases hlt : k < m
      · have d1 : decide ((k : Int) < m) = true := decide_eq_true (by omega)
        have CO := Lib.hid (lone_at hst)
        have HH := Lib.hid hst
        have HL := Lib.hid hl
        have HMN := Lib.hid hmn
        have HK := Lib.hid (show k ≤ 131072 by omega)
        clear hst hl hmn gl g0
        cases hok : (one7 (takesTo M k).2).1.2 with
        | true =>
          have HN := Lib.hid (takesTo_more hok)
          have HM2 := Lib.hid (HH.out.goodL.one_many hok)
          have HW := Lib.hid hown
          rw [hok] at CO
          generalize (one7 (takesTo M k).2).1.1 = x at *
          generalize (one7 (takesTo M k).2).2 = M2 at *
          clear hok hown
          go_wp2_with fail
          refine CO.out.mono ?_
          rintro e w2 ⟨rfl, ho2, hst2⟩
          have hown2 := own_only HW.out ho2 (fun b hb hbl => by
            have h1 := own_base HW.out b hb
            have h2 := HLT.out b hbl
            omega)
          have HST2 := Lib.hid hst2
          have hsz := ho.size
          have hsz2 := ho2.size
          have hk2 := HK.out
          clear hst2
          go_wp2_with (at_builtin; refine wpList_append_own _ rfl _ _ 25 rfl w.heap.size 3 i0 (.int .i64 0) 1 8 Try.underlying25 hi hz0 hz1 hz2 rfl (by decide) _ _ _ rfl (hown2.alloc _) ⟨w2.heap.size, 0, none⟩ 1 1 [.int .i64 x] rfl rfl (cell_new1 w2 _ _) (by simp; rfl) (by unfold maxLen; omega) (by omega) (by simp; omega) ?_; intro v1 w3 hown3 hg3 _)
          obtain ⟨A3, c3, rfl, _⟩ := own_slice hown3
          have ho3 : Only (Value.ownBlock (.slice A' k c')).toList w2 w3 := ((Only.refl _ w2).alloc _).grown hg3 (fun b hb => .inl (by have hb' : (Value.ownBlock (.slice A' k c')) = some b := hb; rw [hb']; simp))
          have hst3 := HST2.out.only ho3 (fun b hbl hb => by
            have h1 := own_base hown2 b (by simpa using hb)
            have h2 := HLT.out b hbl
            omega)
          go_roundw
          case rel => exact ⟨k + 1, by omega, ((ho.trans ho2).alloc _).grown hg3 (fun b hb => .inr (own_base hown2 b hb)), by rw [HN.out]; exact hst3, by rw [HN.out, List.length_append, HL.out]; rfl, by rw [HN.out]; show manyOf M2 = _; rw [HM2.out, HMN.out]; omega, by rw [HN.out, List.map_append]; exact hown3⟩
          case measure => simp [lenV]; omega
        | false =>
          have HN := Lib.hid (fun j => takesTo_stop hok j)
          have HE := Lib.hid (one7_none hok).2
          rw [HE.out] at CO
          have HW := Lib.hid hown
          clear hok hown
          go_wp2_with fail
          refine CO.out.mono ?_
          rintro e w2 ⟨rfl, ho2, hst2⟩
          have hown2 := own_only HW.out ho2 (fun b hb hbl => by
            have h1 := own_base HW.out b hb
            have h2 := HLT.out b hbl
            omega)
          have HST2 := Lib.hid hst2
          clear hst2
          go_wp2_with fail
          go_ret2
          have hN : takesTo M m = takesTo M k := by rw [show m = k + (m - k) by omega]; exact HN.out _
          exact ⟨ho.trans ho2, fun h => absurd h (by omega), fun _ => ⟨_, rfl, by rw [hN]; exact HST2.out, by rw [hN, HL.out]; exact hown2⟩⟩
      · have e : k = m := by omega
        subst e
        have d1 : decide ((k : Int) < k) = false := decide_eq_false (by omega)
        have HH := Lib.hid hst
        have HL := Lib.hid hl
        clear hst hl hmn gl g0
        go_wp2_with fail
        go_ret2
        exact ⟨ho, fun h => absurd h (by omega), fun _ => ⟨_, rfl, HH.out, by rw [HL.out]; exact hown⟩⟩
end Go.Proofs.Ytlmjelcnldlagaa

/- Sweep of the list. -/
import Derived.Test.YtlmjelcnldlagaaLL
set_option linter.unusedVariables false
set_option linter.unusedSimpArgs false
namespace Go.Proofs.Ytlmjelcnldlagaa
open Go.RowKit

abbrev keptOf (M : List Sp) : List Sp := M.filter (fun s => s.many != 0)
abbrev zeroOf (M : List Sp) : List (Int × Int) := zeroTo M M.length

theorem spans_filter (L : List En) : spans (L.filter (fun e => e.s.many != 0)) = keptOf (spans L) := by
  induction L with
  | nil => rfl
  | cons x l ih =>
    simp only [spans, keptOf, List.map_cons, List.filter_cons] at ih ⊢
    split
    · rw [List.map_cons, ih]
    · exact ih

set_option maxRecDepth 100000 in
set_option maxHeartbeats 4000000 in
theorem lSweep_at {w : World} {P : Nat} {bl : List Nat} {c : Cl} {M : List Sp} (h : ListSt w P bl c M) :
    Calls Try.prog 18 #[.pointer (some ⟨P, 0, none⟩)] w fun e w' => ∃ v, e = .returned v ∧ w'.ownsRow w.heap.size 37 2 v (zeroOf M).length (cellsR (zeroOf M)) ∧ Only bl w w' ∧ ListSt w' P bl c (keptOf M) := by
  have CM := Lib.hid (lmade_st h)
  obtain ⟨⟨A, L, hA, rfl, hI⟩, hlt0⟩ := h
  have HA := Lib.hid hA
  have HI := Lib.hid hI
  have HLT := Lib.hid hlt0
  have hO : OutAt w (w.alloc (.cells #[.slice none 0 0] 30)) [] w.heap.size [] := ⟨(Only.refl [] w).alloc _, Nat.le_refl _, by simp, by simp, _, Blk.new w _ _, World.ownsRow_nil _ _ _ _, by simp [Value.ownBlock]⟩
  have hPlt := hA.blk.lt
  have y3 := (hA.still ((Only.refl [] w).alloc (.cells #[.slice none 0 0] 30))).blk.cell_ 3 rfl
  have CD := Lib.hid (ldelete_any hA hO)
  have HOL := Lib.hid (own_lt hA.row)
  clear hA hI hlt0 hO
  go_enter Try.func18, Try.ntmps18
  go_wp2_with (first | (go_at_call 37; with_reducible refine Still.use CM.out ?_))
  refine CD.out.mono ?_
  rintro e w2 ⟨A', rfl, hown, hrow, hO2⟩
  obtain ⟨B, n', rfl, _⟩ := own_slice hrow
  have nP : P ∉ A.ownBlock.toList := fun h => HA.out.nA (Option.mem_toList.1 h)
  have bP := HA.out.blk.only hO2.only nP
  have z3 := bP.cell_ 3 rfl
  have zf := bP.frozen 3
  obtain ⟨v, hvB, hvO, _⟩ := hO2.ex
  have hoP : ¬ (w.heap.size = P) := by omega
  have hoP' : ¬ (P = w.heap.size) := by omega
  have x0 := hvB.cell_ 0 rfl
  have HBP := Lib.hid bP
  have HVO := Lib.hid hvO
  have HONLY := Lib.hid hO2.only
  have HROW := Lib.hid hrow
  have HOWN := Lib.hid hown
  have HNP := Lib.hid nP
  clear hO2 hvO hvB bP hrow hown nP y3
  go_wp2_with fail
  go_ret
  have oS : Only [P] w2 (w2.setCell ⟨P, 3, none⟩ (.slice B (keptE L L.length).length n')) := (Only.refl [P] w2).setCell (.inl (by simp)) _
  have hA := HA.out
  have hkf : keptE L L.length = L.filter (fun e => e.s.many != 0) := by rw [keptE_filter _ _ (Nat.le_refl _), List.take_of_length_le (Nat.le_refl _)]
  have hsub : ∀ e ∈ keptE L L.length, e ∈ L := fun e he => by rw [hkf] at he; exact (List.mem_filter.1 he).1
  have hnA' : (Value.ownBlock (.slice B (keptE L L.length).length n')) ≠ some P := by rw [HOWN.out]; exact hA.nA
  have hst : ListAt (w2.setCell ⟨P, 3, none⟩ (.slice B (keptE L L.length).length n')) P (.slice B (keptE L L.length).length n') c (keptE L L.length) := by
    refine ⟨HBP.out.set_ 3 _, hA.one, own_only HROW.out oS (fun k hk hb => by
      simp at hb
      subst hb
      exact hnA' hk), fun e he => ?_, fun e he => ?_, hnA', ?_⟩
    · have hn := hA.ne e (hsub e he)
      obtain ⟨h1, h2⟩ := hA.sp e (hsub e he)
      exact ⟨(h1.only HONLY.out (fun h => hn.2.2.1 (Option.mem_toList.1 h)) (fun h => hn.2.2.2 (Option.mem_toList.1 h))).only oS (by simpa using hn.1) (by simpa using hn.2.1), h2⟩
    · have hn := hA.ne e (hsub e he)
      rw [HOWN.out]
      exact hn
    · rw [hkf]
      exact hA.ap.filter _
  have hoF : Only bl w (w2.setCell ⟨P, 3, none⟩ (.slice B (keptE L L.length).length n')) := (HONLY.out.mono (fun b hb => HI.out.a b (Option.mem_toList.1 hb))).setCell (.inl HI.out.p) _
  refine ⟨v, rfl, ?_, hoF, ⟨⟨_, _, hst, by rw [hkf, spans_filter], ⟨HI.out.p, fun k hk => HI.out.a k (by rw [← HOWN.out]; exact hk), fun e he => HI.out.e e (hsub e he)⟩⟩, fun b hb => Nat.lt_of_lt_of_le (HLT.out b hb) hoF.size⟩⟩
  show World.ownsRow _ _ _ _ _ (zeroTo (spans L) (spans L).length).length (cellsR (zeroTo (spans L) (spans L).length))
  rw [spans_len]
  exact own_only HVO.out oS (fun k hk hb => by
    simp at hb
    subst hb
    have := own_base HVO.out k hk
    omega)
end Go.Proofs.Ytlmjelcnldlagaa

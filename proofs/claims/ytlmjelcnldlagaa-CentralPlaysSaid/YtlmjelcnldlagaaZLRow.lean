/- The calls of the list's laws, out of an argument. -/
import Derived.Test.YtlmjelcnldlagaaPA
import Derived.Test.YtlmjelcnldlagaaZLQ
set_option linter.unusedVariables false
set_option linter.unusedSimpArgs false
namespace Go.Proofs.Ytlmjelcnldlagaa
open Go.RowKit
open Go.ChangeShapes Go.WideShapes Go.Deep Go.Joins

instance : Inhabited Ac7 := ⟨Ac7.z⟩

section
variable {H : Type} {enc : TypeId × Value → H} {w : World} {base : Nat} {spare : Nat → Bool} {held : Bool}
theorem struct3_at {P : Program} {fuel : Nat} {t : TypeId} {f0 f1 f2 : Field} {cs : List Value} {x : DataW H × List MemPlace} (hs : P.underlying t = some (.struct #[f0, f1, f2])) (hone : oneCellFields P #[f0, f1, f2] = true) (hl : cs.length = 3)
    (h : DataW.trod enc P w base spare held fuel t cs = some x) : ∃ c0 c1 c2 n y0 y1 y2, cs = [c0, c1, c2] ∧ DataW.trod enc P w base spare held n f0.type [c0] = some y0 ∧ DataW.trod enc P w base spare held n f1.type [c1] = some y1 ∧ DataW.trod enc P w base spare held n f2.type [c2] = some y2 := by
  obtain ⟨ys, n', hn', hy, hlen, hyl, hfl⟩ := DataW.trod_struct hs h
  match cs, hl with
  | [c0, c1, c2], _ =>
    have g0 := hfl 0 f0 rfl
    have g1 := hfl 1 f1 rfl
    have g2 := hfl 2 f2 rfl
    obtain ⟨o0, k0⟩ := hone_of hone 0 f0 rfl
    obtain ⟨o1, k1⟩ := hone_of hone 1 f1 rfl
    obtain ⟨o2, k2⟩ := hone_of hone 2 f2 rfl
    rw [o0, k0] at g0
    rw [o1, k1] at g1
    rw [o2, k2] at g2
    have e : ys.length = 3 := by simpa using hyl
    exact ⟨c0, c1, c2, n', ys[0]'(by omega), ys[1]'(by omega), ys[2]'(by omega), rfl, by rw [← List.getElem?_eq_getElem]; exact g0, by rw [← List.getElem?_eq_getElem]; exact g1, by rw [← List.getElem?_eq_getElem]; exact g2⟩
set_option maxRecDepth 100000 in
/-- A slice of ints, out of its cell. -/
theorem ints_of {fuel : Nat} {v : Value} {x : DataW H × List MemPlace} (h : DataW.trod enc Try.prog w base spare held fuel 25 [v] = some x) :
    ∃ A n c o, v = .slice A n c ∧ ReadsI w A n o ∧ (∀ j, j < n → I64 (iAt o j)) ∧ n ≤ c ∧ n ≤ 9223372036854775807 := by
  rcases open_slice1 Try.underlying25 (by kernel_rfl) h with ⟨hc, _⟩ | ⟨a, len, cap, m, n, V, D, Pl, hc, _, hl, hm, hmm, _, hx⟩
  · injection hc with hc
    exact ⟨none, 0, 0, [], hc, ⟨rfl, fun h => absurd h (by omega)⟩, fun j hj => absurd hj (by omega), Nat.le_refl _, by omega⟩
  · injection hc with hc
    have hml : len ≤ m := by rw [hmm]; split <;> omega
    have key : ∀ i, i < len → ∃ y : Int, w.cell? (a.add i) = some (.int .i64 y) ∧ I64 y := fun i hi => by
      obtain ⟨h1, h2⟩ := hx i (by omega)
      obtain ⟨y, e, _, hw⟩ := DataW.trod_int Try.underlying3 h2
      injection e with e
      exact ⟨y, by rw [h1, e], bounds_i64 hw⟩
    refine ⟨some a, len, cap, (List.range len).map (fun i => if hi : i < len then Classical.choose (key i hi) else 0), hc, ⟨by simp, fun _ => ⟨a, rfl, fun j hj => ?_⟩⟩, fun j hj => ?_, hl, by unfold maxLen at hm; omega⟩
    · have := (Classical.choose_spec (key j hj)).1
      rw [this]
      simp [List.getD_eq_getElem?_getD, hj]
    · have := (Classical.choose_spec (key j hj)).2
      simpa [iAt, List.getD_eq_getElem?_getD, hj] using this
set_option maxRecDepth 100000 in
theorem open_ints {r : Reach} {b0 : Nat} {v : Value} {d : DataW H} {p : List MemPlace} (hv : Value.okWide Try.prog w r b0 25 v) (h : DataW.Trod enc Try.prog w base spare held 25 v d p) :
    ∃ A n c o, v = .slice A n c ∧ ReadsI w A n o ∧ (∀ j, j < n → I64 (iAt o j)) ∧ n ≤ c ∧ n ≤ 9223372036854775807 := by
  obtain ⟨A, n, c, rfl⟩ := okWide_slice Try.underlying25 hv
  obtain ⟨fuel, hf⟩ := h
  exact ints_of (v := .slice A n c) hf
set_option maxRecDepth 100000 in
theorem open_act7 {r : Reach} {b0 : Nat} {v : Value} {d : DataW H} {p : List MemPlace} (hv : Value.okWide Try.prog w r b0 47 v) (h : DataW.Trod enc Try.prog w base spare held 47 v d p) :
    ∃ x : Ac7, v = x.val ∧ x.okAt w := by
  obtain ⟨v0, v1, v2, y0, y1, y2, n, rfl, _, _, h0, h1, h2⟩ := open_agg3 Try.underlying47 (by kernel_rfl) (by kernel_rfl) hv h
  obtain ⟨x0, e0, _, w0⟩ := DataW.trod_int Try.underlying3 h0
  obtain ⟨x1, e1, _, w1⟩ := DataW.trod_int Try.underlying3 h1
  obtain ⟨A, m, c, o, e2, r1, r2, r3, r4⟩ := ints_of h2
  injection e0 with e0
  injection e1 with e1
  subst e0 e1 e2
  exact ⟨⟨x0, x1, A, m, c, o⟩, rfl, bounds_i64 w0, bounds_i64 w1, r1, r2, r3, r4⟩
set_option maxRecDepth 100000 in
theorem open_acts7 {r : Reach} {b0 : Nat} {v : Value} {d : DataW H} {p : List MemPlace} (hv : Value.okWide Try.prog w r b0 24 v) (h : DataW.Trod enc Try.prog w base spare held 24 v d p) :
    ∃ A n c l, v = .slice A n c ∧ ReadsA w A n l ∧ n ≤ 9223372036854775807 := by
  obtain ⟨A, n, c, rfl⟩ := okWide_slice Try.underlying24 hv
  obtain ⟨fuel, hf⟩ := h
  rcases open_slice Try.underlying24 hf with ⟨hcs, _⟩ | ⟨a, len, cap, m, fu, D, Pl, hcs, _, hl, hm, hmm, _, hi⟩
  · simp [Value.cells] at hcs
    obtain ⟨rfl, rfl, rfl⟩ := hcs
    exact ⟨none, 0, 0, [], rfl, ReadsA.none w, by omega⟩
  · simp [Value.cells] at hcs
    obtain ⟨rfl, rfl, rfl⟩ := hcs
    have hml : n ≤ m := by rw [hmm]; split <;> omega
    have hC : (Try.prog).cellsOf 47 = 3 := by kernel_rfl
    have key : ∀ i, i < n → ∃ x : Ac7, x.okAt w ∧ w.cell? (a.add (i * 3)) = some (.int .i64 x.k) ∧ w.cell? (a.add (i * 3 + 1)) = some (.int .i64 x.a) ∧ w.cell? (a.add (i * 3 + 2)) = some (.slice x.B x.n x.cap) := by
      intro i hin
      obtain ⟨cs', hc, ht'⟩ := hi i (by omega)
      rw [hC] at hc
      obtain ⟨_, hcl, hat⟩ := World.cells?_some hc
      obtain ⟨c0, c1, c2, n', y0, y1, y2, rfl, g0, g1, g2⟩ := struct3_at Try.underlying47 (by kernel_rfl) hcl ht'
      obtain ⟨x0, e0, _, w0⟩ := DataW.trod_int Try.underlying3 g0
      obtain ⟨x1, e1, _, w1⟩ := DataW.trod_int Try.underlying3 g1
      obtain ⟨A, l, cp, o, e2, r1, r2, r3, r4⟩ := ints_of g2
      injection e0 with e0
      injection e1 with e1
      subst e0 e1 e2
      have h0 := hat 0 (by decide)
      have h1 := hat 1 (by decide)
      have h2 := hat 2 (by decide)
      rw [Go.Deep.add_add] at h0 h1 h2
      exact ⟨⟨x0, x1, A, l, cp, o⟩, ⟨bounds_i64 w0, bounds_i64 w1, r1, r2, r3, r4⟩, h0, h1, h2⟩
    obtain ⟨X, hX⟩ := choose_lt (α := Ac7) (p := fun i x => x.okAt w ∧ w.cell? (a.add (i * 3)) = some (.int .i64 x.k) ∧ w.cell? (a.add (i * 3 + 1)) = some (.int .i64 x.a) ∧ w.cell? (a.add (i * 3 + 2)) = some (.slice x.B x.n x.cap)) key
    have hx : ∀ j, j < n → xAt ((List.range n).map X) j = X j := fun j hj => by simp [xAt, List.getD_eq_getElem?_getD, hj]
    refine ⟨some a, n, c, (List.range n).map X, rfl, ⟨by simp, fun j hj => by rw [hx j hj]; exact (hX j hj).1, fun h0 => ⟨a, rfl, fun j hj => ?_⟩⟩, by unfold maxLen at hm; omega⟩
    obtain ⟨_, x0, x1, x2⟩ := hX j hj
    have hz : w.cell? a = some (.int .i64 (X 0).k) := by
      have := (hX 0 h0).2.1
      simpa [Addr.add] using this
    rw [hx j hj]
    exact ⟨x0, by rw [← add_next hz (j * 3) 0]; exact x1, by rw [← add_next hz (j * 3) 1]; exact x2⟩
end
end Go.Proofs.Ytlmjelcnldlagaa

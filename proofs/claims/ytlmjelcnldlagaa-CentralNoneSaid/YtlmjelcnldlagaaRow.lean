/- Arguments opened to plain facts, for the rows of this seat's laws. -/
import Derived.Test.YtlmjelcnldlagaaBase
import Derived.ProofKit
import Derived.OpenShut
import Derived.ShutString
import Derived.ChangeOld
import Derived.Deep.Slices
import Derived.Deep.Fields
import Derived.ChangeSame
import Derived.Lib.SmallJoins
set_option linter.unusedVariables false
set_option linter.unusedSimpArgs false
namespace Go.Proofs.Ytlmjelcnldlagaa
open Go.RowKit Go.ChangeShapes Go.WideShapes Go.Deep Go.Joins

theorem row_own : ownKnob Try.prog.godebug = none := by kernel_rfl
theorem row_laidOut : laidOutB Try.prog = true := by kernel_rfl

theorem add_next {w : World} {a : Addr} {v : Value} (h : w.cell? a = some v) (i j : Nat) : a.add (i + (j + 1)) = ⟨(a.add i).block, (a.add i).off + (j + 1), none⟩ := by
  obtain ⟨b, o, sp⟩ := a
  have hs : sp = none := by simpa using World.cell?_spot h
  subst hs
  unfold Addr.add
  rw [if_neg (by omega)]
  split
  · rename_i h0; subst h0; simp
  · simp; omega

/-- All fields are of type int. -/
def intFields (P : Program) (fs : Array Field) : Bool := fs.toList.all fun f => match P.underlying f.type with | some (.int .i64) => true | _ => false
theorem intFields.at_ {P : Program} {fs : Array Field} (h : intFields P fs = true) (j : Nat) (f : Field) (hj : fs[j]? = some f) : P.underlying f.type = some (.int .i64) := by
  unfold intFields at h
  rw [List.all_eq_true] at h
  have hm : f ∈ fs.toList := by rw [← Array.getElem?_toList] at hj; exact List.mem_of_getElem? hj
  have := h f hm
  split at this
  · assumption
  · cases this

section
variable {H : Type} {enc : TypeId × Value → H} {P : Program} {w : World} {base : Nat} {spare : Nat → Bool} {held : Bool}
/-- A slice of structs whose fields are all of type int. -/
theorem open_rows {r : Reach} {b0 : Nat} {t e : TypeId} {fs : Array Field} {v : Value} {d : DataW H} {p : List MemPlace} (ht : P.underlying t = some (.slice e)) (he : P.underlying e = some (.struct fs))
    (hone : oneCellFields P fs = true) (hC : P.cellsOf e = fs.size) (h0 : 0 < fs.size) (hif : intFields P fs = true)
    (hv : Value.okWide P w r b0 t v) (h : DataW.Trod enc P w base spare held t v d p) :
    ∃ (A : Option Addr) (n c : Nat) (F : Nat → Nat → Int), v = .slice A n c ∧ n ≤ 9223372036854775807 ∧ (∀ i j, I64 (F i j)) ∧
      (0 < n → ∃ ad, A = some ad ∧ ∀ i, i < n → w.cell? (ad.add (i * fs.size)) = some (.int .i64 (F i 0)) ∧ ∀ j, j + 1 < fs.size → w.cell? ⟨(ad.add (i * fs.size)).block, (ad.add (i * fs.size)).off + (j + 1), none⟩ = some (.int .i64 (F i (j + 1)))) := by
  obtain ⟨A, n, c, rfl⟩ := okWide_slice ht hv
  obtain ⟨fuel, hf⟩ := h
  rcases open_slice ht hf with ⟨hcs, _⟩ | ⟨a, len, cap, m, fu, D, Pl, hcs, _, hl, hm, hmm, _, hi⟩
  · simp [Value.cells] at hcs
    obtain ⟨rfl, rfl, rfl⟩ := hcs
    exact ⟨none, 0, 0, fun _ _ => 0, rfl, by omega, fun _ _ => by show I64 0; unfold I64; omega, fun h => absurd h (by omega)⟩
  · simp [Value.cells] at hcs
    obtain ⟨rfl, rfl, rfl⟩ := hcs
    have hml : n ≤ m := by rw [hmm]; split <;> omega
    have key : ∀ i, i < n → ∀ j, j < fs.size → ∃ x : Int, w.cell? (a.add (i * fs.size + j)) = some (.int .i64 x) ∧ I64 x := by
      intro i hin j hj
      obtain ⟨cs', hc, ht'⟩ := hi i (by omega)
      rw [hC] at hc
      obtain ⟨ys, n', hn', hy, hlen, hyl, hfl⟩ := DataW.trod_struct he ht'
      obtain ⟨_, hcl, hat⟩ := World.cells?_some hc
      have hjf : fs[j]? = some fs[j] := Array.getElem?_eq_getElem hj
      obtain ⟨ho, hk⟩ := hone_of hone j _ hjf
      have h1 := hfl j _ hjf
      rw [ho, hk] at h1
      have hone' : (cs'.drop j).take 1 = [cs'[j]'(by omega)] := by
        rw [List.drop_eq_getElem_cons (by omega)]
        rfl
      rw [hone', List.getElem?_eq_getElem (by omega)] at h1
      obtain ⟨x, hx1, _, hwf⟩ := DataW.trod_int (intFields.at_ hif j _ hjf) h1
      have hx2 : cs'[j]'(by omega) = .int .i64 x := by injection hx1
      refine ⟨x, ?_, bounds_i64 hwf⟩
      rw [← Go.Deep.add_add, hat j hj, List.getElem?_eq_getElem (by omega), hx2]
    refine ⟨some a, n, c, fun i j => if hij : i < n ∧ j < fs.size then Classical.choose (key i hij.1 j hij.2) else 0, rfl, ?_, ?_, ?_⟩
    · have : c ≤ maxLen := hm
      unfold maxLen at this
      omega
    · intro i j
      show I64 (if hij : i < n ∧ j < fs.size then Classical.choose (key i hij.1 j hij.2) else 0)
      split
      · rename_i hij
        exact (Classical.choose_spec (key i hij.1 j hij.2)).2
      · unfold I64; omega
    · intro hn
      refine ⟨a, rfl, fun i hin => ?_⟩
      have hz := (Classical.choose_spec (key 0 hn 0 h0)).1
      have hz0 : w.cell? a = some (.int .i64 (Classical.choose (key 0 hn 0 h0))) := by simpa [Addr.add] using hz
      constructor
      · dsimp only
        rw [dif_pos ⟨hin, h0⟩]
        exact (Classical.choose_spec (key i hin 0 h0)).1
      · intro j hj
        dsimp only
        rw [dif_pos ⟨hin, hj⟩, ← add_next hz0]
        exact (Classical.choose_spec (key i hin (j + 1) hj)).1

theorem open_int3 {r : Reach} {b0 : Nat} {t : TypeId} {f0 f1 f2 : Field} {v : Value} {d : DataW H} {p : List MemPlace} (hs : P.underlying t = some (.struct #[f0, f1, f2])) (hone : oneCellFields P #[f0, f1, f2] = true) (hC : P.cellsOf t = 3)
    (k0 : P.underlying f0.type = some (.int .i64)) (k1 : P.underlying f1.type = some (.int .i64)) (k2 : P.underlying f2.type = some (.int .i64))
    (hv : Value.okWide P w r b0 t v) (h : DataW.Trod enc P w base spare held t v d p) :
    ∃ x0 x1 x2 : Int, v = .agg #[.int .i64 x0, .int .i64 x1, .int .i64 x2] ∧ I64 x0 ∧ I64 x1 ∧ I64 x2 := by
  obtain ⟨v0, v1, v2, y0, y1, y2, n, rfl, _, _, h0, h1, h2⟩ := open_agg3 hs hone hC hv h
  obtain ⟨x0, e0, _, w0⟩ := DataW.trod_int k0 h0
  obtain ⟨x1, e1, _, w1⟩ := DataW.trod_int k1 h1
  obtain ⟨x2, e2, _, w2⟩ := DataW.trod_int k2 h2
  injection e0 with e0
  injection e1 with e1
  injection e2 with e2
  subst e0 e1 e2
  exact ⟨x0, x1, x2, rfl, bounds_i64 w0, bounds_i64 w1, bounds_i64 w2⟩
theorem open_int2 {r : Reach} {b0 : Nat} {t : TypeId} {f0 f1 : Field} {v : Value} {d : DataW H} {p : List MemPlace} (hs : P.underlying t = some (.struct #[f0, f1])) (hone : oneCellFields P #[f0, f1] = true) (hC : P.cellsOf t = 2)
    (k0 : P.underlying f0.type = some (.int .i64)) (k1 : P.underlying f1.type = some (.int .i64))
    (hv : Value.okWide P w r b0 t v) (h : DataW.Trod enc P w base spare held t v d p) :
    ∃ x0 x1 : Int, v = .agg #[.int .i64 x0, .int .i64 x1] ∧ I64 x0 ∧ I64 x1 := by
  obtain ⟨v0, v1, y0, y1, n, rfl, _, _, h0, h1⟩ := open_agg2 hs hone hC hv h
  obtain ⟨x0, e0, _, w0⟩ := DataW.trod_int k0 h0
  obtain ⟨x1, e1, _, w1⟩ := DataW.trod_int k1 h1
  injection e0 with e0
  injection e1 with e1
  subst e0 e1
  exact ⟨x0, x1, rfl, bounds_i64 w0, bounds_i64 w1⟩
end
end Go.Proofs.Ytlmjelcnldlagaa

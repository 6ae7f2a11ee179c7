/- The list of spans: plain data, and where it lies. -/
import Derived.Test.YtlmjelcnldlagaaSpI
import Derived.Test.YtlmjelcnldlagaaLR
set_option linter.unusedVariables false
set_option linter.unusedSimpArgs false
namespace Go.Proofs.Ytlmjelcnldlagaa
open Go.RowKit

def Sp.z : Sp := ⟨0, 0, 0, 0, 0, []⟩
/-- A span and where it lies. -/
structure En where
  p : Nat
  q : Nat
  cap : Nat
  s : Sp
def En.z : En := ⟨0, 0, 0, Sp.z⟩
def eAt (L : List En) (j : Nat) : En := L.getD j En.z
def sAt (M : List Sp) (j : Nat) : Sp := M.getD j Sp.z
abbrev spans (L : List En) : List Sp := L.map En.s
theorem sAt_spans (L : List En) (j : Nat) : sAt (spans L) j = (eAt L j).s := by
  simp only [sAt, spans, eAt, List.getD_eq_getElem?_getD, List.getElem?_map]
  cases L[j]? <;> rfl
theorem spans_len (L : List En) : (spans L).length = L.length := List.length_map ..
theorem eAt_mem {L : List En} {j : Nat} (h : j < L.length) : eAt L j ∈ L := by
  rw [eAt, List.getD_eq_getElem?_getD, List.getElem?_eq_getElem h]
  exact List.getElem_mem h
theorem eAt_set {L : List En} {j : Nat} (e : En) (h : j < L.length) (i : Nat) : eAt (L.set j e) i = if j = i then e else eAt L i := by
  simp only [eAt, List.getD_eq_getElem?_getD, List.getElem?_set]
  by_cases h1 : j = i
  · subst h1; simp [h]
  · simp [h1]

def entCells (L : List En) : List Value := L.flatMap fun e => [.int .i64 e.s.many, .int .i64 e.s.start, .pointer (some ⟨e.p, 0, none⟩)]
theorem entCells_len (L : List En) : (entCells L).length = L.length * 3 := by
  induction L with
  | nil => rfl
  | cons x l ih =>
    have : entCells (x :: l) = [.int .i64 x.s.many, .int .i64 x.s.start, .pointer (some ⟨x.p, 0, none⟩)] ++ entCells l := rfl
    rw [this, List.length_append, ih]
    simp
    omega
theorem entCells_at (L : List En) (j : Nat) (h : j < L.length) : (entCells L)[j * 3]? = some (.int .i64 (eAt L j).s.many) ∧ (entCells L)[j * 3 + 1]? = some (.int .i64 (eAt L j).s.start) ∧ (entCells L)[j * 3 + 2]? = some (.pointer (some ⟨(eAt L j).p, 0, none⟩)) := by
  induction L generalizing j with
  | nil => simp at h
  | cons x l ih =>
    have e : entCells (x :: l) = .int .i64 x.s.many :: .int .i64 x.s.start :: .pointer (some ⟨x.p, 0, none⟩) :: entCells l := rfl
    rw [e]
    cases j with
    | zero => simp [eAt]
    | succ j =>
      have := ih j (by simpa using h)
      rw [show (j + 1) * 3 = j * 3 + 1 + 1 + 1 by omega]
      simpa [eAt] using this
theorem entCells_append (l m : List En) : entCells (l ++ m) = entCells l ++ entCells m := by simp [entCells]
theorem entCells_set (L : List En) (j : Nat) (e : En) (h : j < L.length) (hp : e.p = (eAt L j).p) (hs : e.s.start = (eAt L j).s.start) : entCells (L.set j e) = (entCells L).set (j * 3) (.int .i64 e.s.many) := by
  induction L generalizing j with
  | nil => simp at h
  | cons x l ih =>
    have e' : entCells (x :: l) = .int .i64 x.s.many :: .int .i64 x.s.start :: .pointer (some ⟨x.p, 0, none⟩) :: entCells l := rfl
    rw [e']
    cases j with
    | zero =>
      simp [eAt] at hp hs
      simp [entCells, hp, hs]
    | succ j =>
      have := ih j (by simpa using h) (by simpa [eAt] using hp) (by simpa [eAt] using hs)
      rw [show (j + 1) * 3 = j * 3 + 1 + 1 + 1 by omega]
      simp only [List.set_cons_succ]
      rw [← this]
      simp [entCells]

structure Apart (a b : En) : Prop where
  ord : a.s.start + a.s.pages ≤ b.s.start
  pp : a.p ≠ b.p
  pq : a.p ≠ b.q
  qp : a.q ≠ b.p
  qq : a.q ≠ b.q

/-- A class. -/
structure Cl where
  size : Int
  pages : Int
  batch : Int
def Cl.ok (c : Cl) : Prop := oneP c.size c.pages c.batch
/-- A span is of a class. -/
def Sp.of (s : Sp) (c : Cl) : Prop := s.size = c.size ∧ s.pages = c.pages ∧ s.batch = c.batch

structure ListAt (w : World) (P : Nat) (A : Value) (c : Cl) (L : List En) : Prop where
  blk : Blk w P 68 #[.int .i64 c.size, .int .i64 c.pages, .int .i64 c.batch, A]
  one : c.ok
  row : w.ownsRow 0 75 3 A L.length (entCells L)
  sp : ∀ e ∈ L, SpanAt w e.p e.q e.cap e.s ∧ e.s.of c
  ne : ∀ e ∈ L, e.p ≠ P ∧ e.q ≠ P ∧ A.ownBlock ≠ some e.p ∧ A.ownBlock ≠ some e.q
  nA : A.ownBlock ≠ some P
  ap : L.Pairwise Apart

/-- What a list may write: its blocks lie in bl. -/
structure InBl (P : Nat) (A : Value) (L : List En) (bl : List Nat) : Prop where
  p : P ∈ bl
  a : ∀ k, A.ownBlock = some k → k ∈ bl
  e : ∀ e ∈ L, e.p ∈ bl ∧ e.q ∈ bl
structure ListSt (w : World) (P : Nat) (bl : List Nat) (c : Cl) (M : List Sp) : Prop where
  ex : ∃ A L, ListAt w P A c L ∧ spans L = M ∧ InBl P A L bl
  lt : ∀ b ∈ bl, b < w.heap.size

theorem ListAt.only {w w' : World} {P : Nat} {A : Value} {c : Cl} {L : List En} {bl l : List Nat} (h : ListAt w P A c L) (hb : InBl P A L bl) (ho : Only l w w') (hl : ∀ b ∈ bl, b ∉ l) : ListAt w' P A c L := by
  refine ⟨h.blk.only ho (hl _ hb.p), h.one, own_only h.row ho (fun k hk => hl _ (hb.a k hk)), fun e he => ?_, h.ne, h.nA, h.ap⟩
  obtain ⟨h1, h2⟩ := h.sp e he
  exact ⟨h1.only ho (hl _ (hb.e e he).1) (hl _ (hb.e e he).2), h2⟩
theorem ListAt.still {w w' : World} {P : Nat} {A : Value} {c : Cl} {L : List En} (h : ListAt w P A c L) (ho : Only [] w w') : ListAt w' P A c L := by
  refine ⟨h.blk.only ho (by simp), h.one, own_only h.row ho (by simp), fun e he => ?_, h.ne, h.nA, h.ap⟩
  obtain ⟨h1, h2⟩ := h.sp e he
  exact ⟨h1.only ho (by simp) (by simp), h2⟩
theorem ListSt.only {w w' : World} {P : Nat} {bl l : List Nat} {c : Cl} {M : List Sp} (h : ListSt w P bl c M) (ho : Only l w w') (hl : ∀ b ∈ bl, b ∉ l) : ListSt w' P bl c M := by
  obtain ⟨⟨A, L, h1, h2, h3⟩, h4⟩ := h
  exact ⟨⟨A, L, h1.only h3 ho hl, h2, h3⟩, fun b hb => Nat.lt_of_lt_of_le (h4 b hb) ho.size⟩
theorem ListSt.still {w w' : World} {P : Nat} {bl : List Nat} {c : Cl} {M : List Sp} (h : ListSt w P bl c M) (ho : Only [] w w') : ListSt w' P bl c M := h.only ho (by simp)

/-- A step that turns the list to M. -/
def LTurn (w : World) (P : Nat) (bl : List Nat) (w' : World) (c : Cl) (M : List Sp) : Prop := Only bl w w' ∧ ∃ bl', ListSt w' P bl' c M ∧ ∀ b ∈ bl', b ∈ bl ∨ w.heap.size ≤ b
theorem LTurn.same {w w' : World} {P : Nat} {bl : List Nat} {c : Cl} {M : List Sp} (h : ListSt w P bl c M) (ho : Only [] w w') : LTurn w P bl w' c M := ⟨ho.of_nil, bl, h.still ho, fun b hb => .inl hb⟩
theorem LTurn.step {w w1 w2 : World} {P : Nat} {bl bl1 : List Nat} {c : Cl} {M : List Sp} (ho : Only bl w w1) (hl : ∀ b ∈ bl1, b ∈ bl ∨ w.heap.size ≤ b) (h : LTurn w1 P bl1 w2 c M) : LTurn w P bl w2 c M := by
  obtain ⟨h1, l2, h2, h3⟩ := h
  refine ⟨ho.then_ h1 hl, l2, h2, fun b hb => ?_⟩
  rcases h3 b hb with h4 | h4
  · exact hl b h4
  · exact .inr (Nat.le_trans ho.size h4)
theorem LTurn.first {w w1 w2 : World} {P : Nat} {bl : List Nat} {c : Cl} {M : List Sp} (ho : Only [] w w1) (h : LTurn w1 P bl w2 c M) : LTurn w P bl w2 c M := LTurn.step ho.of_nil (fun b hb => .inl hb) h
theorem LTurn.last {w w1 w2 : World} {P : Nat} {bl : List Nat} {c : Cl} {M : List Sp} (h : LTurn w P bl w1 c M) (ho : Only [] w1 w2) : LTurn w P bl w2 c M := by
  obtain ⟨h1, l2, h2, h3⟩ := h
  exact ⟨h1.trans ho.of_nil, l2, h2.still ho, h3⟩
theorem LTurn.trans {w w1 w2 : World} {P : Nat} {bl bl1 : List Nat} {c : Cl} {M M2 : List Sp} (ho : Only bl w w1) (hl : ∀ b ∈ bl1, b ∈ bl ∨ w.heap.size ≤ b) (h : LTurn w1 P bl1 w2 c M2) : LTurn w P bl w2 c M2 := LTurn.step ho hl h
/-- Since w, nothing old is turned. -/
theorem LTurn.new {w w1 w2 : World} {P : Nat} {bl : List Nat} {c : Cl} {M : List Sp} (ho : Only [] w w1) (hl : ∀ b ∈ bl, w.heap.size ≤ b) (h : LTurn w1 P bl w2 c M) : Only [] w w2 ∧ ∃ bl', ListSt w2 P bl' c M ∧ ∀ b ∈ bl', w.heap.size ≤ b := by
  obtain ⟨h1, l2, h2, h3⟩ := h
  refine ⟨ho.then_ h1 (fun b hb => .inr (hl b hb)), l2, h2, fun b hb => ?_⟩
  rcases h3 b hb with h4 | h4
  · exact hl b h4
  · exact Nat.le_trans ho.size h4

namespace ListAt
variable {w w' : World} {P : Nat} {A : Value} {c : Cl} {L : List En}
theorem slice (h : ListAt w P A c L) : ∃ ad cp, A = .slice ad L.length cp := by
  obtain ⟨ad, cp, h1, _⟩ := own_slice h.row
  exact ⟨ad, cp, h1⟩
theorem form (h : ListAt w P A c L) (h0 : 0 < L.length) : ∃ g cp, A = .slice (some ⟨g, 0, none⟩) L.length cp := by
  obtain ⟨g, cp, h1, _⟩ := own_form h.row h0
  exact ⟨g, cp, h1⟩
theorem get (h : ListAt w P A c L) {j : Nat} (hj : j < L.length) : SpanAt w (eAt L j).p (eAt L j).q (eAt L j).cap (eAt L j).s ∧ (eAt L j).s.of c := h.sp _ (eAt_mem hj)
end ListAt

theorem own_ents {w : World} {base n g cp : Nat} {e : TypeId} {L : List En} (h : w.ownsRow base e 3 (.slice (some ⟨g, 0, none⟩) n cp) n (entCells L)) (hn : n = L.length) {j : Nat} (hj : j < n) :
    w.cell? ⟨g, j * 3, none⟩ = some (.int .i64 (eAt L j).s.many) ∧ w.cell? ⟨g, j * 3 + 1, none⟩ = some (.int .i64 (eAt L j).s.start) ∧ w.cell? ⟨g, j * 3 + 2, none⟩ = some (.pointer (some ⟨(eAt L j).p, 0, none⟩)) ∧ (∀ k, w.frozen? ⟨g, k, none⟩ = false) := by
  rcases h.2 with ⟨h2, _⟩ | ⟨g', cap, cur, hv, hb, hg, h3, h4, h5, h6⟩
  · cases h2
  · injection hv with e1 _ e3
    injection e1 with e1
    injection e1 with e1 _ _
    subst e1 e3
    have hB : Blk w g e cur := hg
    have hat : ∀ i u, i < n * 3 → (entCells L)[i]? = some u → w.cell? ⟨g, i, none⟩ = some u := fun i u hi hu => by
      rw [← h6, List.getElem?_take, if_pos hi, Array.getElem?_toList] at hu
      exact hB.cell_ i hu
    obtain ⟨a1, a2, a3⟩ := entCells_at L j (by omega)
    exact ⟨hat _ _ (by omega) a1, hat _ _ (by omega) a2, hat _ _ (by omega) a3, fun k => hB.frozen k⟩
/-- Starts rise, so there are at most 1024 spans. -/
theorem ListAt.start_ge {w : World} {P : Nat} {A : Value} {c : Cl} {L : List En} (h : ListAt w P A c L) (j : Nat) : j < L.length → (j : Int) ≤ (eAt L j).s.start := by
  induction j with
  | zero => intro hj; exact (h.get hj).1.good.b1
  | succ j ih =>
    intro hj
    have h1 := ih (by omega)
    have h2 := (List.pairwise_iff_getElem.1 h.ap) j (j + 1) (by omega) hj (by omega)
    have h3 := (h.get (show j < L.length by omega)).1.good.p1
    have h4 := h2.ord
    have e1 : L[j] = eAt L j := by rw [eAt, List.getD_eq_getElem?_getD, List.getElem?_eq_getElem (by omega)]; rfl
    have e2 : L[j + 1] = eAt L (j + 1) := by rw [eAt, List.getD_eq_getElem?_getD, List.getElem?_eq_getElem hj]; rfl
    rw [e1, e2] at h4
    omega
theorem ListAt.len {w : World} {P : Nat} {A : Value} {c : Cl} {L : List En} (h : ListAt w P A c L) : L.length ≤ 1024 := by
  rcases Nat.eq_zero_or_pos L.length with h0 | h0
  · omega
  · have h1 := h.start_ge (L.length - 1) (by omega)
    have h2 := (h.get (show L.length - 1 < L.length by omega)).1.good.b2
    have h3 := (h.get (show L.length - 1 < L.length by omega)).1.good.p1
    omega
theorem ListAt.apart {w : World} {P : Nat} {A : Value} {c : Cl} {L : List En} (h : ListAt w P A c L) {i j : Nat} (hi : i < j) (hj : j < L.length) : Apart (eAt L i) (eAt L j) := by
  have h2 := (List.pairwise_iff_getElem.1 h.ap) i j (by omega) hj hi
  have e1 : L[i] = eAt L i := by rw [eAt, List.getD_eq_getElem?_getD, List.getElem?_eq_getElem (by omega)]; rfl
  have e2 : L[j] = eAt L j := by rw [eAt, List.getD_eq_getElem?_getD, List.getElem?_eq_getElem hj]; rfl
  rwa [e1, e2] at h2
end Go.Proofs.Ytlmjelcnldlagaa

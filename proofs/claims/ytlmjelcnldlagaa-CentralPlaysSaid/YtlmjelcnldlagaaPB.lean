/- Rows of ints and of runs: read, owned, compared. -/
import Derived.Test.YtlmjelcnldlagaaPA
import Derived.Deep.AppendLies
import Derived.Maps.AppendAt
import Derived.BigQuiet
set_option linter.unusedVariables false
set_option linter.unusedSimpArgs false
namespace Go.Proofs.Ytlmjelcnldlagaa
open Go.RowKit

/-- Run j of a list of runs. -/
abbrev rAt (l : List (Int × Int)) (j : Nat) : Int × Int := l.getD j (0, 0)
/-- The cells of runs. -/
def cellsR (l : List (Int × Int)) : List Value := l.flatMap fun r => [.int .i64 r.1, .int .i64 r.2]
theorem cellsR_len (l : List (Int × Int)) : (cellsR l).length = l.length * 2 := by
  induction l with
  | nil => rfl
  | cons x l ih =>
    have : cellsR (x :: l) = [.int .i64 x.1, .int .i64 x.2] ++ cellsR l := rfl
    rw [this, List.length_append, ih]
    simp
    omega
theorem cellsR_at (l : List (Int × Int)) (j : Nat) (h : j < l.length) : (cellsR l)[j * 2]? = some (.int .i64 (rAt l j).1) ∧ (cellsR l)[j * 2 + 1]? = some (.int .i64 (rAt l j).2) := by
  induction l generalizing j with
  | nil => simp at h
  | cons x l ih =>
    have e : cellsR (x :: l) = .int .i64 x.1 :: .int .i64 x.2 :: cellsR l := rfl
    rw [e]
    cases j with
    | zero => simp [rAt]
    | succ j =>
      have := ih j (by simpa using h)
      rw [show (j + 1) * 2 = j * 2 + 1 + 1 by omega]
      simpa [rAt] using this
theorem cellsR_append (l m : List (Int × Int)) : cellsR (l ++ m) = cellsR l ++ cellsR m := by simp [cellsR]
/-- A cell of a row of one's own is written. -/
theorem own_set {w : World} {base : Nat} {e : TypeId} {size n g c : Nat} {xs : List Value} (h : w.ownsRow base e size (.slice (some ⟨g, 0, none⟩) n c) n xs) (i : Nat) (u : Value) : (w.setCell ⟨g, i, none⟩ u).ownsRow base e size (.slice (some ⟨g, 0, none⟩) n c) n (xs.set i u) := by
  obtain ⟨h1, h2⟩ := h
  refine ⟨by simpa using h1, ?_⟩
  rcases h2 with ⟨h2, _⟩ | ⟨g', cap, cur, hv, hb, hg, h3, h4, h5, h6⟩
  · cases h2
  · injection hv with e1 _ e3
    injection e1 with e1
    injection e1 with e1 _ _
    subst e1 e3
    have hB : Blk w g e cur := hg
    refine .inr ⟨g, c, cur.setIfInBounds i u, rfl, hb, hB.set_ i u, h3, h4, by simpa using h5, ?_⟩
    rw [← h6, Array.toList_setIfInBounds, List.take_set]
/-- The cells of a row of one's own. -/
theorem own_runs {w : World} {base n g c : Nat} {e : TypeId} {l : List (Int × Int)} (h : w.ownsRow base e 2 (.slice (some ⟨g, 0, none⟩) n c) n (cellsR l)) (hn : n = l.length) {j : Nat} (hj : j < n) :
    w.cell? ⟨g, j * 2, none⟩ = some (.int .i64 (rAt l j).1) ∧ w.cell? ⟨g, j * 2 + 1, none⟩ = some (.int .i64 (rAt l j).2) ∧ (∀ k, w.frozen? ⟨g, k, none⟩ = false) := by
  rcases h.2 with ⟨h2, _⟩ | ⟨g', cap, cur, hv, hb, hg, h3, h4, h5, h6⟩
  · cases h2
  · injection hv with e1 _ e3
    injection e1 with e1
    injection e1 with e1 _ _
    subst e1 e3
    have hB : Blk w g e cur := hg
    have hat : ∀ i u, i < n * 2 → (cellsR l)[i]? = some u → w.cell? ⟨g, i, none⟩ = some u := fun i u hi hu => by
      rw [← h6, List.getElem?_take, if_pos hi, Array.getElem?_toList] at hu
      exact hB.cell_ i hu
    obtain ⟨a1, a2⟩ := cellsR_at l j (by omega)
    exact ⟨hat _ _ (by omega) a1, hat _ _ (by omega) a2, fun k => hB.frozen k⟩
theorem rAt_snoc (l : List (Int × Int)) (j : Nat) (x : Int × Int) : rAt (l ++ [x]) j = if j = l.length then x else rAt l j := by
  unfold rAt
  rw [List.getD_eq_getElem?_getD, List.getD_eq_getElem?_getD]
  by_cases e : j = l.length
  · subst e; simp
  · rw [if_neg e]
    by_cases h : j < l.length
    · rw [List.getElem?_append_left h]
    · rw [List.getElem?_eq_none (by simp; omega), List.getElem?_eq_none (by omega)]
theorem info_run : (Try.prog.info? 37).map (fun i => (i.zero, i.size, i.bytes)) = some (some (.agg #[.int .i64 0, .int .i64 0]), 2, 16) := by kernel_rfl
theorem news_new (w : World) (cs : Array Value) (t : TypeId) : ∀ j u, cs.toList[j]? = some u → (w.alloc (.cells cs t)).cell? ((⟨w.heap.size, 0, none⟩ : Addr).add j) = some u := World.news_of_block (Blk.new w t cs)
theorem own_reads {w : World} {base n : Nat} {v : Value} {l : List Int} (h : w.ownsRow base 3 1 v n (l.map (Value.int .i64))) : ∃ A c, v = .slice A n c ∧ ReadsI w A n l ∧ ∀ ad, A = some ad → base ≤ ad.block := by
  have hl : l.length = n := by have := h.1; simpa using this
  rcases h.2 with ⟨rfl, h0⟩ | ⟨g, cap, cur, rfl, hb, hh, _⟩
  · exact ⟨none, 0, by rw [h0], ⟨hl, fun hp => absurd hp (by omega)⟩, by simp⟩
  · refine ⟨_, cap, rfl, ⟨hl, fun _ => ⟨_, rfl, fun j hj => ?_⟩⟩, by rintro ad e; injection e with e; subst e; exact hb⟩
    rw [add_plain, h.cellAt j (by omega), List.getElem?_map, List.getElem?_eq_getElem (by omega), List.getD_eq_getElem?_getD, List.getElem?_eq_getElem (by omega)]
    rfl
theorem ReadsI.only {w w' : World} {A : Option Addr} {n : Nat} {l : List Int} {L : List Nat} (h : ReadsI w A n l) (ho : Only L w w') (hn : ∀ ad, A = some ad → ad.block ∉ L) : ReadsI w' A n l := by
  obtain ⟨h1, h2⟩ := h
  refine ⟨h1, fun h0 => ?_⟩
  obtain ⟨ad, rfl, hc⟩ := h2 h0
  refine ⟨ad, rfl, fun j hj => ?_⟩
  have hb : (ad.add j).block = ad.block := by unfold Addr.add; split <;> rfl
  exact (ho.cell (World.block_lt_of_cell? w _ (hc j hj)) (by rw [hb]; exact hn ad rfl)).trans (hc j hj)
theorem ReadsI.dr {w w' : World} {A : Option Addr} {n : Nat} {l : List Int} (h : ReadsI w A n l) (hd : Dr w w') : ReadsI w' A n l := h.only (Only.of_dr (l := []) hd) (by simp)
set_option maxHeartbeats 800000 in
theorem ints_same (w : World) (A B : Option Addr) (n c d : Nat) (l : List Int) (ha : ReadsI w A n l) (hb : ReadsI w B n l) (hn : n ≤ 1000000) : Quiet Try.prog 28 #[.slice A n c, .slice B n d] w (.bool true) := by
  go_enter Try.func28, Try.ntmps28
  go_wp2
  go_loopw [5] (fun t wr => ∃ k : Nat, k ≤ n ∧ t = .int .i64 k ∧ Dr w wr) (fun t _ => n - (intOf t).toNat)
  case atStart => exact ⟨0, Nat.zero_le _, rfl, Dr.refl _⟩
  case round =>
    obtain ⟨k, hk, rfl, hd⟩ := hrel
    by_cases hlt : k < n
    · obtain ⟨a1, rfl, hc1⟩ := (ha.dr hd).2 (by omega)
      obtain ⟨a2, rfl, hc2⟩ := (hb.dr hd).2 (by omega)
      have x1 := hc1 k hlt
      have x2 := hc2 k hlt
      clear hc1 hc2 ha hb
      generalize l.getD k 0 = x at x1 x2
      go_wp2
      go_quiet (fail)
      go_wp2
      go_roundw
      case rel => exact ⟨k + 1, by omega, by go_num, hd.drewN _⟩
      case measure => simp [intOf]; omega
    · go_wp2
      go_ret
      exact ⟨rfl, hd⟩
/-- A slice of runs reads as l. -/
def ReadsR (w : World) (v : Value) (n : Nat) (l : List (Int × Int)) : Prop := ∃ A c, v = .slice A n c ∧ (0 < n → ∃ g, A = some ⟨g, 0, none⟩ ∧ ∀ j, j < n → w.cell? ⟨g, j * 2, none⟩ = some (.int .i64 (rAt l j).1) ∧ w.cell? ⟨g, j * 2 + 1, none⟩ = some (.int .i64 (rAt l j).2))
theorem ReadsR.still {w w' : World} {v : Value} {n : Nat} {l : List (Int × Int)} (h : ReadsR w v n l) (ho : Only [] w w') : ReadsR w' v n l := by
  obtain ⟨A, c, rfl, h⟩ := h
  refine ⟨A, c, rfl, fun h0 => ?_⟩
  obtain ⟨g, rfl, hc⟩ := h h0
  exact ⟨g, rfl, fun j hj => ⟨(ho.cell (World.block_lt_of_cell? w _ (hc j hj).1) (by simp)).trans (hc j hj).1, (ho.cell (World.block_lt_of_cell? w _ (hc j hj).2) (by simp)).trans (hc j hj).2⟩⟩
theorem own_readsR {w : World} {base n : Nat} {v : Value} {e : TypeId} {l : List (Int × Int)} (h : w.ownsRow base e 2 v n (cellsR l)) (hn : n = l.length) : ReadsR w v n l := by
  rcases Nat.eq_zero_or_pos n with h0 | h0
  · obtain ⟨A, c, rfl, _⟩ := own_slice h
    exact ⟨A, c, rfl, fun h => absurd h (by omega)⟩
  · obtain ⟨g, c, rfl, _⟩ := own_form h h0
    exact ⟨_, c, rfl, fun _ => ⟨g, rfl, fun j hj => by obtain ⟨a1, a2, _⟩ := own_runs h hn hj; exact ⟨a1, a2⟩⟩⟩
set_option maxHeartbeats 1600000 in
theorem Runs_eq (w : World) (u v : Value) (n : Nat) (l : List (Int × Int)) (hu : ReadsR w u n l) (hv : ReadsR w v n l) (hn : n ≤ 1000000) : Grew Try.prog 30 #[u, v] w (.bool true) := by
  obtain ⟨A, c, rfl, h1⟩ := hu
  obtain ⟨B, d, rfl, h2⟩ := hv
  have H1 := Lib.hid h1
  have H2 := Lib.hid h2
  clear h1 h2
  go_enter Try.func30, Try.ntmps30
  go_wp2_with fail
  go_loopw [5] (fun t wr => ∃ k : Nat, k ≤ n ∧ t = .int .i64 k ∧ Only [] w wr) (fun t _ => n - (intOf t).toNat)
  case atStart => exact ⟨0, Nat.zero_le _, rfl, Only.refl _ _⟩
  case round =>
    obtain ⟨k, hk, rfl, ho⟩ := hrel
    by_cases hlt : k < n
    · obtain ⟨a1, rfl, hc1⟩ := H1.out (by omega)
      obtain ⟨a2, rfl, hc2⟩ := H2.out (by omega)
      have d1 : decide ((k : Int) < n) = true := decide_eq_true (by omega)
      have x1 := (ho.cell (World.block_lt_of_cell? w _ (hc1 k hlt).1) (by simp)).trans (hc1 k hlt).1
      have x2 := (ho.cell (World.block_lt_of_cell? w _ (hc2 k hlt).1) (by simp)).trans (hc2 k hlt).1
      have y1 := (ho.cell (World.block_lt_of_cell? w _ (hc1 k hlt).2) (by simp)).trans (hc1 k hlt).2
      have y2 := (ho.cell (World.block_lt_of_cell? w _ (hc2 k hlt).2) (by simp)).trans (hc2 k hlt).2
      clear hc1 hc2
      generalize (rAt l k).1 = x at x1 x2
      generalize (rAt l k).2 = y at y1 y2
      go_wp2_with fail
      go_quiet (fail)
      go_wp2_with fail
      go_roundw
      case rel => exact ⟨k + 1, by omega, by go_num, ho.drewN _⟩
      case measure => simp [intOf]; omega
    · have e : k = n := by omega
      subst e
      have d1 : decide ((k : Int) < k) = false := decide_eq_false (by omega)
      go_wp2_with fail
      go_ret
      exact ⟨rfl, ho⟩
end Go.Proofs.Ytlmjelcnldlagaa
/- The list of spans: plain data, and where it lies. -/
set_option linter.unusedVariables false
set_option linter.unusedSimpArgs false
namespace Go.Proofs.Ytlmjelcnldlagaa
open Go.RowKit

def Sp.z : Sp := ⟨0, 0, 0, 0, 0, []⟩
/-- A span and where it lies. -/
structure En where
  p : Nat
  q : Nat
  cap : Nat
  s : Sp
def En.z : En := ⟨0, 0, 0, Sp.z⟩
def eAt (L : List En) (j : Nat) : En := L.getD j En.z
def sAt (M : List Sp) (j : Nat) : Sp := M.getD j Sp.z
abbrev spans (L : List En) : List Sp := L.map En.s
theorem sAt_spans (L : List En) (j : Nat) : sAt (spans L) j = (eAt L j).s := by
  simp only [sAt, spans, eAt, List.getD_eq_getElem?_getD, List.getElem?_map]
  cases L[j]? <;> rfl
theorem spans_len (L : List En) : (spans L).length = L.length := List.length_map ..
theorem eAt_mem {L : List En} {j : Nat} (h : j < L.length) : eAt L j ∈ L := by
  rw [eAt, List.getD_eq_getElem?_getD, List.getElem?_eq_getElem h]
  exact List.getElem_mem h
theorem eAt_set {L : List En} {j : Nat} (e : En) (h : j < L.length) (i : Nat) : eAt (L.set j e) i = if j = i then e else eAt L i := by
  simp only [eAt, List.getD_eq_getElem?_getD, List.getElem?_set]
  by_cases h1 : j = i
  · subst h1; simp [h]
  · simp [h1]

def entCells (L : List En) : List Value := L.flatMap fun e => [.int .i64 e.s.many, .int .i64 e.s.start, .pointer (some ⟨e.p, 0, none⟩)]
theorem entCells_len (L : List En) : (entCells L).length = L.length * 3 := by
  induction L with
  | nil => rfl
  | cons x l ih =>
    have : entCells (x :: l) = [.int .i64 x.s.many, .int .i64 x.s.start, .pointer (some ⟨x.p, 0, none⟩)] ++ entCells l := rfl
    rw [this, List.length_append, ih]
    simp
    omega
theorem entCells_at (L : List En) (j : Nat) (h : j < L.length) : (entCells L)[j * 3]? = some (.int .i64 (eAt L j).s.many) ∧ (entCells L)[j * 3 + 1]? = some (.int .i64 (eAt L j).s.start) ∧ (entCells L)[j * 3 + 2]? = some (.pointer (some ⟨(eAt L j).p, 0, none⟩)) := by
  induction L generalizing j with
  | nil => simp at h
  | cons x l ih =>
    have e : entCells (x :: l) = .int .i64 x.s.many :: .int .i64 x.s.start :: .pointer (some ⟨x.p, 0, none⟩) :: entCells l := rfl
    rw [e]
    cases j with
    | zero => simp [eAt]
    | succ j =>
      have := ih j (by simpa using h)
      rw [show (j + 1) * 3 = j * 3 + 1 + 1 + 1 by omega]
      simpa [eAt] using this
theorem entCells_append (l m : List En) : entCells (l ++ m) = entCells l ++ entCells m := by simp [entCells]
theorem entCells_set (L : List En) (j : Nat) (e : En) (h : j < L.length) (hp : e.p = (eAt L j).p) (hs : e.s.start = (eAt L j).s.start) : entCells (L.set j e) = (entCells L).set (j * 3) (.int .i64 e.s.many) := by
  induction L generalizing j with
  | nil => simp at h
  | cons x l ih =>
    have e' : entCells (x :: l) = .int .i64 x.s.many :: .int .i64 x.s.start :: .pointer (some ⟨x.p, 0, none⟩) :: entCells l := rfl
    rw [e']
    cases j with
    | zero =>
      simp [eAt] at hp hs
      simp [entCells, hp, hs]
    | succ j =>
      have := ih j (by simpa using h) (by simpa [eAt] using hp) (by simpa [eAt] using hs)
      rw [show (j + 1) * 3 = j * 3 + 1 + 1 + 1 by omega]
      simp only [List.set_cons_succ]
      rw [← this]
      simp [entCells]

structure Apart (a b : En) : Prop where
  ord : a.s.start + a.s.pages ≤ b.s.start
  pp : a.p ≠ b.p
  pq : a.p ≠ b.q
  qp : a.q ≠ b.p
  qq : a.q ≠ b.q

/-- A class. -/
structure Cl where
  size : Int
  pages : Int
  batch : Int
def Cl.ok (c : Cl) : Prop := oneP c.size c.pages c.batch
/-- A span is of a class. -/
def Sp.of (s : Sp) (c : Cl) : Prop := s.size = c.size ∧ s.pages = c.pages ∧ s.batch = c.batch

structure ListAt (w : World) (P : Nat) (A : Value) (c : Cl) (L : List En) : Prop where
  blk : Blk w P 68 #[.int .i64 c.size, .int .i64 c.pages, .int .i64 c.batch, A]
  one : c.ok
  row : w.ownsRow 0 75 3 A L.length (entCells L)
  sp : ∀ e ∈ L, SpanAt w e.p e.q e.cap e.s ∧ e.s.of c
  ne : ∀ e ∈ L, e.p ≠ P ∧ e.q ≠ P ∧ A.ownBlock ≠ some e.p ∧ A.ownBlock ≠ some e.q
  nA : A.ownBlock ≠ some P
  ap : L.Pairwise Apart

/-- What a list may write: its blocks lie in bl. -/
structure InBl (P : Nat) (A : Value) (L : List En) (bl : List Nat) : Prop where
  p : P ∈ bl
  a : ∀ k, A.ownBlock = some k → k ∈ bl
  e : ∀ e ∈ L, e.p ∈ bl ∧ e.q ∈ bl
structure ListSt (w : World) (P : Nat) (bl : List Nat) (c : Cl) (M : List Sp) : Prop where
  ex : ∃ A L, ListAt w P A c L ∧ spans L = M ∧ InBl P A L bl
  lt : ∀ b ∈ bl, b < w.heap.size

theorem ListAt.only {w w' : World} {P : Nat} {A : Value} {c : Cl} {L : List En} {bl l : List Nat} (h : ListAt w P A c L) (hb : InBl P A L bl) (ho : Only l w w') (hl : ∀ b ∈ bl, b ∉ l) : ListAt w' P A c L := by
  refine ⟨h.blk.only ho (hl _ hb.p), h.one, own_only h.row ho (fun k hk => hl _ (hb.a k hk)), fun e he => ?_, h.ne, h.nA, h.ap⟩
  obtain ⟨h1, h2⟩ := h.sp e he
  exact ⟨h1.only ho (hl _ (hb.e e he).1) (hl _ (hb.e e he).2), h2⟩
theorem ListAt.still {w w' : World} {P : Nat} {A : Value} {c : Cl} {L : List En} (h : ListAt w P A c L) (ho : Only [] w w') : ListAt w' P A c L := by
  refine ⟨h.blk.only ho (by simp), h.one, own_only h.row ho (by simp), fun e he => ?_, h.ne, h.nA, h.ap⟩
  obtain ⟨h1, h2⟩ := h.sp e he
  exact ⟨h1.only ho (by simp) (by simp), h2⟩
theorem ListSt.only {w w' : World} {P : Nat} {bl l : List Nat} {c : Cl} {M : List Sp} (h : ListSt w P bl c M) (ho : Only l w w') (hl : ∀ b ∈ bl, b ∉ l) : ListSt w' P bl c M := by
  obtain ⟨⟨A, L, h1, h2, h3⟩, h4⟩ := h
  exact ⟨⟨A, L, h1.only h3 ho hl, h2, h3⟩, fun b hb => Nat.lt_of_lt_of_le (h4 b hb) ho.size⟩
theorem ListSt.still {w w' : World} {P : Nat} {bl : List Nat} {c : Cl} {M : List Sp} (h : ListSt w P bl c M) (ho : Only [] w w') : ListSt w' P bl c M := h.only ho (by simp)

/-- A step that turns the list to M. -/
def LTurn (w : World) (P : Nat) (bl : List Nat) (w' : World) (c : Cl) (M : List Sp) : Prop := Only bl w w' ∧ ∃ bl', ListSt w' P bl' c M ∧ ∀ b ∈ bl', b ∈ bl ∨ w.heap.size ≤ b
theorem LTurn.same {w w' : World} {P : Nat} {bl : List Nat} {c : Cl} {M : List Sp} (h : ListSt w P bl c M) (ho : Only [] w w') : LTurn w P bl w' c M := ⟨ho.of_nil, bl, h.still ho, fun b hb => .inl hb⟩
theorem LTurn.step {w w1 w2 : World} {P : Nat} {bl bl1 : List Nat} {c : Cl} {M : List Sp} (ho : Only bl w w1) (hl : ∀ b ∈ bl1, b ∈ bl ∨ w.heap.size ≤ b) (h : LTurn w1 P bl1 w2 c M) : LTurn w P bl w2 c M := by
  obtain ⟨h1, l2, h2, h3⟩ := h
  refine ⟨ho.then_ h1 hl, l2, h2, fun b hb => ?_⟩
  rcases h3 b hb with h4 | h4
  · exact hl b h4
  · exact .inr (Nat.le_trans ho.size h4)
theorem LTurn.first {w w1 w2 : World} {P : Nat} {bl : List Nat} {c : Cl} {M : List Sp} (ho : Only [] w w1) (h : LTurn w1 P bl w2 c M) : LTurn w P bl w2 c M := LTurn.step ho.of_nil (fun b hb => .inl hb) h
theorem LTurn.last {w w1 w2 : World} {P : Nat} {bl : List Nat} {c : Cl} {M : List Sp} (h : LTurn w P bl w1 c M) (ho : Only [] w1 w2) : LTurn w P bl w2 c M := by
  obtain ⟨h1, l2, h2, h3⟩ := h
  exact ⟨h1.trans ho.of_nil, l2, h2.still ho, h3⟩
theorem LTurn.trans {w w1 w2 : World} {P : Nat} {bl bl1 : List Nat} {c : Cl} {M M2 : List Sp} (ho : Only bl w w1) (hl : ∀ b ∈ bl1, b ∈ bl ∨ w.heap.size ≤ b) (h : LTurn w1 P bl1 w2 c M2) : LTurn w P bl w2 c M2 := LTurn.step ho hl h
/-- Since w, nothing old is turned. -/
theorem LTurn.new {w w1 w2 : World} {P : Nat} {bl : List Nat} {c : Cl} {M : List Sp} (ho : Only [] w w1) (hl : ∀ b ∈ bl, w.heap.size ≤ b) (h : LTurn w1 P bl w2 c M) : Only [] w w2 ∧ ∃ bl', ListSt w2 P bl' c M ∧ ∀ b ∈ bl', w.heap.size ≤ b := by
  obtain ⟨h1, l2, h2, h3⟩ := h
  refine ⟨ho.then_ h1 (fun b hb => .inr (hl b hb)), l2, h2, fun b hb => ?_⟩
  rcases h3 b hb with h4 | h4
  · exact hl b h4
  · exact Nat.le_trans ho.size h4

namespace ListAt
variable {w w' : World} {P : Nat} {A : Value} {c : Cl} {L : List En}
theorem slice (h : ListAt w P A c L) : ∃ ad cp, A = .slice ad L.length cp := by
  obtain ⟨ad, cp, h1, _⟩ := own_slice h.row
  exact ⟨ad, cp, h1⟩
theorem form (h : ListAt w P A c L) (h0 : 0 < L.length) : ∃ g cp, A = .slice (some ⟨g, 0, none⟩) L.length cp := by
  obtain ⟨g, cp, h1, _⟩ := own_form h.row h0
  exact ⟨g, cp, h1⟩
theorem get (h : ListAt w P A c L) {j : Nat} (hj : j < L.length) : SpanAt w (eAt L j).p (eAt L j).q (eAt L j).cap (eAt L j).s ∧ (eAt L j).s.of c := h.sp _ (eAt_mem hj)
end ListAt

theorem own_ents {w : World} {base n g cp : Nat} {e : TypeId} {L : List En} (h : w.ownsRow base e 3 (.slice (some ⟨g, 0, none⟩) n cp) n (entCells L)) (hn : n = L.length) {j : Nat} (hj : j < n) :
    w.cell? ⟨g, j * 3, none⟩ = some (.int .i64 (eAt L j).s.many) ∧ w.cell? ⟨g, j * 3 + 1, none⟩ = some (.int .i64 (eAt L j).s.start) ∧ w.cell? ⟨g, j * 3 + 2, none⟩ = some (.pointer (some ⟨(eAt L j).p, 0, none⟩)) ∧ (∀ k, w.frozen? ⟨g, k, none⟩ = false) := by
  rcases h.2 with ⟨h2, _⟩ | ⟨g', cap, cur, hv, hb, hg, h3, h4, h5, h6⟩
  · cases h2
  · injection hv with e1 _ e3
    injection e1 with e1
    injection e1 with e1 _ _
    subst e1 e3
    have hB : Blk w g e cur := hg
    have hat : ∀ i u, i < n * 3 → (entCells L)[i]? = some u → w.cell? ⟨g, i, none⟩ = some u := fun i u hi hu => by
      rw [← h6, List.getElem?_take, if_pos hi, Array.getElem?_toList] at hu
      exact hB.cell_ i hu
    obtain ⟨a1, a2, a3⟩ := entCells_at L j (by omega)
    exact ⟨hat _ _ (by omega) a1, hat _ _ (by omega) a2, hat _ _ (by omega) a3, fun k => hB.frozen k⟩
/-- Starts rise, so there are at most 1024 spans. -/
theorem ListAt.start_ge {w : World} {P : Nat} {A : Value} {c : Cl} {L : List En} (h : ListAt w P A c L) (j : Nat) : j < L.length → (j : Int) ≤ (eAt L j).s.start := by
  induction j with
  | zero => intro hj; exact (h.get hj).1.good.b1
  | succ j ih =>
    intro hj
    have h1 := ih (by omega)
    have h2 := (List.pairwise_iff_getElem.1 h.ap) j (j + 1) (by omega) hj (by omega)
    have h3 := (h.get (show j < L.length by omega)).1.good.p1
    have h4 := h2.ord
    have e1 : L[j] = eAt L j := by rw [eAt, List.getD_eq_getElem?_getD, List.getElem?_eq_getElem (by omega)]; rfl
    have e2 : L[j + 1] = eAt L (j + 1) := by rw [eAt, List.getD_eq_getElem?_getD, List.getElem?_eq_getElem hj]; rfl
    rw [e1, e2] at h4
    omega
theorem ListAt.len {w : World} {P : Nat} {A : Value} {c : Cl} {L : List En} (h : ListAt w P A c L) : L.length ≤ 1024 := by
  rcases Nat.eq_zero_or_pos L.length with h0 | h0
  · omega
  · have h1 := h.start_ge (L.length - 1) (by omega)
    have h2 := (h.get (show L.length - 1 < L.length by omega)).1.good.b2
    have h3 := (h.get (show L.length - 1 < L.length by omega)).1.good.p1
    omega
theorem ListAt.apart {w : World} {P : Nat} {A : Value} {c : Cl} {L : List En} (h : ListAt w P A c L) {i j : Nat} (hi : i < j) (hj : j < L.length) : Apart (eAt L i) (eAt L j) := by
  have h2 := (List.pairwise_iff_getElem.1 h.ap) i j (by omega) hj hi
  have e1 : L[i] = eAt L i := by rw [eAt, List.getD_eq_getElem?_getD, List.getElem?_eq_getElem (by omega)]; rfl
  have e2 : L[j] = eAt L j := by rw [eAt, List.getD_eq_getElem?_getD, List.getElem?_eq_getElem hj]; rfl
  rwa [e1, e2] at h2
end Go.Proofs.Ytlmjelcnldlagaa
/- made, New, of, IsTaken, Find, Taken, Room of the list. -/
set_option linter.unusedVariables false
set_option linter.unusedSimpArgs false
namespace Go.Proofs.Ytlmjelcnldlagaa
open Go.RowKit

theorem Cl.ok.s1 {c : Cl} (h : c.ok) : 8 ≤ c.size ∧ c.size ≤ 512 ∧ 1 ≤ c.pages ∧ c.pages ≤ 4 := ⟨h.1, h.2.1, h.2.2.2.1, h.2.2.2.2.1⟩

theorem lmade_at {w : World} {P : Nat} {A : Value} {c : Cl} {L : List En} (h : ListAt w P A c L) : Still Try.prog 37 #[.pointer (some ⟨P, 0, none⟩)] w (.bool true) := by
  have z0 := h.blk.cell_ 0 rfl
  have d1 : decide (0 < c.size) = true := decide_eq_true (by have := h.one.s1; omega)
  clear h
  go_enter Try.func37, Try.ntmps37
  go_wp2_with fail
  go_ret
  exact ⟨rfl, rfl⟩

/-- Which span has a byte. -/
def ofI (M : List Sp) (a : Int) : Option Nat := M.findIdx? (fun s => (s.idx a).2 == 0)
theorem ofI_some {M : List Sp} {a : Int} {k : Nat} (hk : k < M.length) (h : ((sAt M k).idx a).2 = 0) (hn : ∀ j, j < k → ((sAt M j).idx a).2 ≠ 0) : ofI M a = some k := by
  rw [ofI, List.findIdx?_eq_some_iff_getElem]
  refine ⟨hk, ?_, fun j hj => ?_⟩
  · simpa [sAt, List.getD_eq_getElem?_getD, List.getElem?_eq_getElem hk] using h
  · have := hn j hj
    simpa [sAt, List.getD_eq_getElem?_getD, List.getElem?_eq_getElem (show j < M.length by omega)] using this
theorem ofI_none {M : List Sp} {a : Int} (hn : ∀ j, j < M.length → ((sAt M j).idx a).2 ≠ 0) : ofI M a = none := by
  rw [ofI, List.findIdx?_eq_none_iff]
  intro x hx
  obtain ⟨j, hj, rfl⟩ := List.getElem_of_mem hx
  have := hn j hj
  simpa [sAt, List.getD_eq_getElem?_getD, List.getElem?_eq_getElem hj] using this
theorem ofI_cases (M : List Sp) (a : Int) : (ofI M a = none ∧ ∀ j, j < M.length → ((sAt M j).idx a).2 ≠ 0) ∨ ∃ k, ofI M a = some k ∧ k < M.length ∧ ((sAt M k).idx a).2 = 0 ∧ ∀ j, j < k → ((sAt M j).idx a).2 ≠ 0 := by
  cases h : ofI M a with
  | none =>
    refine .inl ⟨rfl, fun j hj hx => ?_⟩
    rw [ofI, List.findIdx?_eq_none_iff] at h
    have := h M[j] (List.getElem_mem hj)
    simp [sAt, List.getD_eq_getElem?_getD, List.getElem?_eq_getElem hj] at hx
    simp [hx] at this
  | some k =>
    rw [ofI, List.findIdx?_eq_some_iff_getElem] at h
    obtain ⟨h1, h2, h3⟩ := h
    refine .inr ⟨k, rfl, h1, ?_, fun j hj hx => ?_⟩
    · simpa [sAt, List.getD_eq_getElem?_getD, List.getElem?_eq_getElem h1] using h2
    · have := h3 j hj
      simp [sAt, List.getD_eq_getElem?_getD, List.getElem?_eq_getElem (show j < M.length by omega)] at hx
      simp [hx] at this

set_option maxHeartbeats 2000000 in
theorem of_at {w : World} {P : Nat} {A : Value} {c : Cl} {L : List En} (h : ListAt w P A c L) (a : Int) (ha : I64 a) :
    Calls Try.prog 41 #[.pointer (some ⟨P, 0, none⟩), .int .i64 a] w fun e w' => Only [] w w' ∧
      ((∃ j g, ofI (spans L) a = some j ∧ j < L.length ∧ A.ownBlock = some g ∧ e = .returned (.pointer (some ⟨g, j * 3, none⟩))) ∨ (ofI (spans L) a = none ∧ e = .returned (.pointer none))) := by
  obtain ⟨ad, cp, rfl⟩ := h.slice
  have z3 := h.blk.cell_ 3 rfl
  have HA := Lib.hid h
  have hn := h.len
  obtain ⟨N, hN⟩ : ∃ N, N = L.length := ⟨_, rfl⟩
  rw [← hN] at z3 hn
  have HN := Lib.hid hN
  clear h hN
  go_enter Try.func41, Try.ntmps41
  go_wp2_with fail
  go_loopw [13] (fun t wr => ∃ k : Nat, k ≤ N ∧ t = .int .i64 k ∧ Only [] w wr ∧ ∀ j, j < k → ((eAt L j).s.idx a).2 ≠ 0) (fun t _ => N - (intOf t).toNat)
  case atStart => exact ⟨0, Nat.zero_le _, rfl, Only.refl _ _, fun j hj => absurd hj (by omega)⟩
  case round =>
    obtain ⟨k, hk, rfl, ho, hF⟩ := hrel
    have hr := HA.out.still ho
    by_cases hlt : k < N
    · have d1 : decide ((k : Int) < N) = true := decide_eq_true (by omega)
      obtain ⟨g, cp', e1⟩ := hr.form (by rw [← HN.out]; omega)
      injection e1 with e1 _ e3
      subst e1 e3
      have y3 := hr.blk.cell_ 3 rfl
      obtain ⟨q0, q1, q2, qf⟩ := own_ents hr.row rfl (j := k) (by rw [← HN.out]; exact hlt)
      rw [← HN.out] at y3
      have CI := Lib.hid (Index_at (hr.get (by rw [← HN.out]; exact hlt)).1 a ha.1 ha.2)
      have HF := Lib.hid hF
      have HX : Hid (((eAt L k).s.idx a).2 = ((eAt L k).s.idx a).2) := rfl
      generalize h1 : ((eAt L k).s.idx a).1 = i1 at *
      generalize h2 : ((eAt L k).s.idx a).2 = i2 at *
      have H2 := Lib.hid h2
      clear h1 h2 HX hF hr
      by_cases h0 : i2 = 0
      · have d2 : (i2 == 0) = true := by simp [h0]
        have HZ := Lib.hid h0
        clear h0
        go_wp2_with (first | (go_at_call 71; with_reducible refine Quiet.use CI.out (fun nq => ?_)))
        go_ret
        exact ⟨ho.drewN _, .inl ⟨k, g, ofI_some (by rw [spans_len, ← HN.out]; exact hlt) (by rw [sAt_spans, H2.out, HZ.out]) (fun j hj => by rw [sAt_spans]; exact HF.out j hj), by rw [← HN.out]; exact hlt, rfl, rfl⟩⟩
      · have d2 : (i2 == 0) = false := by simp [h0]
        have HZ := Lib.hid h0
        clear h0
        go_wp2_with (first | (go_at_call 71; with_reducible refine Quiet.use CI.out (fun nq => ?_)))
        go_roundw
        case rel => exact ⟨k + 1, by omega, by go_num, ho.drewN _, fun j hj => by
          rcases Nat.lt_or_ge j k with h1 | h1
          · exact HF.out j h1
          · rw [show j = k by omega, H2.out]; exact HZ.out⟩
        case measure => simp [intOf]; omega
    · have d1 : decide ((k : Int) < N) = false := decide_eq_false (by omega)
      have HF := Lib.hid hF
      clear hF hr
      go_wp2_with fail
      go_ret
      exact ⟨ho, .inr ⟨ofI_none (fun j hj => by rw [sAt_spans]; exact HF.out j (by rw [spans_len, ← HN.out] at hj; omega)), rfl⟩⟩

/-- IsTaken. -/
def isTk (M : List Sp) (a : Int) : Bool × Int := match ofI M a with | none => (false, 8) | some j => (sAt M j).tkn a
set_option maxHeartbeats 2000000 in
theorem lIsTaken_at {w : World} {P : Nat} {A : Value} {c : Cl} {L : List En} (h : ListAt w P A c L) (a : Int) (ha : I64 a) :
    Grew Try.prog 39 #[.pointer (some ⟨P, 0, none⟩), .int .i64 a] w (.tuple #[.bool (isTk (spans L) a).1, .int .i64 (isTk (spans L) a).2]) := by
  have HA := Lib.hid h
  have CM := Lib.hid (lmade_at h)
  have CO := Lib.hid (of_at h a ha)
  clear h
  go_enter Try.func39, Try.ntmps39
  go_wp2_with (first | (go_at_call 37; with_reducible refine Still.use CM.out ?_))
  refine CO.out.mono ?_
  rintro e w1 ⟨ho1, ⟨j, g, h1, h2, h3, rfl⟩ | ⟨h1, rfl⟩⟩
  · have hr := HA.out.still ho1
    obtain ⟨g', cp', rfl⟩ := hr.form (by omega)
    obtain rfl : g' = g := by injection h3
    obtain ⟨q0, q1, q2, qf⟩ := own_ents hr.row rfl h2
    have CT := Lib.hid (IsTaken_at (hr.get h2).1 a ha.1 ha.2)
    have E := Lib.hid (show isTk (spans L) a = (eAt L j).s.tkn a by unfold isTk; rw [h1]; exact congrArg (fun s => Sp.tkn s a) (sAt_spans L j))
    generalize (eAt L j).s.tkn a = x at *
    obtain ⟨x1, x2⟩ := x
    clear hr HA h1
    go_wp2_with (first | (go_at_call 69; with_reducible refine Quiet.use CT.out (fun nq => ?_)))
    go_ret2
    exact ⟨by rw [E.out]; rfl, ho1.drewN _⟩
  · have E := Lib.hid (show isTk (spans L) a = (false, 8) by unfold isTk; rw [h1])
    clear HA h1
    go_wp2_with fail
    go_ret2
    exact ⟨by rw [E.out]; rfl, ho1⟩

/-- Find. -/
def findM (M : List Sp) (a : Int) : Int × Int := match ofI M a with | none => (0, 8) | some j => ((sAt M j).start * 256 + ((sAt M j).idx a).1 * (sAt M j).size, 0)
set_option maxHeartbeats 2000000 in
theorem lFind_at {w : World} {P : Nat} {A : Value} {c : Cl} {L : List En} (h : ListAt w P A c L) (a : Int) (ha : I64 a) :
    Grew Try.prog 52 #[.pointer (some ⟨P, 0, none⟩), .int .i64 a] w (.tuple #[.int .i64 (findM (spans L) a).1, .int .i64 (findM (spans L) a).2]) := by
  have HA := Lib.hid h
  have CM := Lib.hid (lmade_at h)
  have CO := Lib.hid (of_at h a ha)
  clear h
  go_enter Try.func52, Try.ntmps52
  go_wp2_with (first | (go_at_call 37; with_reducible refine Still.use CM.out ?_))
  refine CO.out.mono ?_
  rintro e w1 ⟨ho1, ⟨j, g, h1, h2, h3, rfl⟩ | ⟨h1, rfl⟩⟩
  · have hr := HA.out.still ho1
    obtain ⟨g', cp', rfl⟩ := hr.form (by omega)
    obtain rfl : g' = g := by injection h3
    obtain ⟨q0, q1, q2, qf⟩ := own_ents hr.row rfl h2
    have z0 := hr.blk.cell_ 0 rfl
    obtain ⟨hs, hof⟩ := hr.get h2
    have CT := Lib.hid (Index_at hs a ha.1 ha.2)
    have E := Lib.hid (show findM (spans L) a = ((eAt L j).s.start * 256 + ((eAt L j).s.idx a).1 * c.size, 0) by unfold findM; rw [h1]; dsimp only; rw [sAt_spans, hof.1])
    obtain ⟨r1, r2, _⟩ := Sp.idx_range hs.good a
    obtain ⟨o1, o2⟩ := hs.good.off r1 (Int.le_of_lt r2)
    have b1 := hs.good.b1
    have b2 := hs.good.b2
    have b3 := hs.good.p1
    have b4 := hs.good.p2
    rw [hof.1] at o1 o2
    clear r2
    generalize ((eAt L j).s.idx a).1 = x1 at *
    generalize ((eAt L j).s.idx a).2 = x2 at *
    generalize (eAt L j).s.start = st at *
    generalize c.size = sz at *
    clear hr HA h1 hs hof
    go_wp2_with (first | (go_at_call 71; with_reducible refine Quiet.use CT.out (fun nq => ?_)))
    go_quiet (fail)
    go_wp2
    go_ret2
    exact ⟨by rw [E.out]; rfl, (ho1.drewN _).drewN _⟩
  · have E := Lib.hid (show findM (spans L) a = (0, 8) by unfold findM; rw [h1])
    clear HA h1
    go_wp2_with fail
    go_ret2
    exact ⟨by rw [E.out]; rfl, ho1⟩

/-- The taken objects, and the free ones, of the first k spans. -/
def manyTo (M : List Sp) : Nat → Int
  | 0 => 0
  | k + 1 => manyTo M k + (sAt M k).many
def roomTo (M : List Sp) : Nat → Int
  | 0 => 0
  | k + 1 => roomTo M k + ((sAt M k).st.length - (sAt M k).many)
abbrev manyOf (M : List Sp) : Int := manyTo M M.length
abbrev roomOf (M : List Sp) : Int := roomTo M M.length

set_option maxHeartbeats 2000000 in
theorem lTaken_at {w : World} {P : Nat} {A : Value} {c : Cl} {L : List En} (h : ListAt w P A c L) : Grew Try.prog 27 #[.pointer (some ⟨P, 0, none⟩)] w (.int .i64 (manyOf (spans L))) := by
  have CM := Lib.hid (lmade_at h)
  obtain ⟨ad, cp, rfl⟩ := h.slice
  have z3 := h.blk.cell_ 3 rfl
  have HA := Lib.hid h
  have hn := h.len
  obtain ⟨N, hN⟩ : ∃ N, N = L.length := ⟨_, rfl⟩
  have HG : Hid (manyOf (spans L) = manyTo (spans L) N) := by rw [hN, ← spans_len]; rfl
  rw [← hN] at z3 hn
  have HN := Lib.hid hN
  clear h hN
  go_enter Try.func27, Try.ntmps27
  go_wp2_with (first | (go_at_call 37; with_reducible refine Still.use CM.out ?_))
  go_loopw [3, 14] (fun u t wr => ∃ k : Nat, ∃ x : Int, k ≤ N ∧ u = .int .i64 x ∧ t = .int .i64 k ∧ Only [] w wr ∧ x = manyTo (spans L) k ∧ 0 ≤ x ∧ x ≤ 128 * k) (fun _ t _ => N - (intOf t).toNat)
  case atStart => exact ⟨0, 0, Nat.zero_le _, rfl, rfl, Only.refl _ _, rfl, by omega, by omega⟩
  case round =>
    obtain ⟨k, x, hk, rfl, rfl, ho, hx, h1, h2⟩ := hrel
    have hr := HA.out.still ho
    have HX := Lib.hid hx
    clear hx
    by_cases hlt : k < N
    · have d1 : decide ((k : Int) < N) = true := decide_eq_true (by omega)
      obtain ⟨g, cp', e1⟩ := hr.form (by rw [← HN.out]; omega)
      injection e1 with e1 _ e3
      subst e1 e3
      obtain ⟨q0, q1, q2, qf⟩ := own_ents hr.row rfl (j := k) (by rw [← HN.out]; exact hlt)
      obtain ⟨m1, m2⟩ := (hr.get (show k < L.length by rw [← HN.out]; exact hlt)).1.good.many
      have m3 := (hr.get (show k < L.length by rw [← HN.out]; exact hlt)).1.good.len
      have HM : Hid (manyTo (spans L) (k + 1) = manyTo (spans L) k + (eAt L k).s.many) := by show _ = _; rw [manyTo, sAt_spans]
      generalize (eAt L k).s.st.length = ln at *
      generalize (eAt L k).s.many = mn at *
      generalize (eAt L k).s.start = st at *
      clear hr
      go_wp2_with fail
      go_roundw
      case rel => exact ⟨k + 1, x + mn, by omega, rfl, by go_num, ho.alloc _, by rw [HM.out, HX.out], by omega, by omega⟩
      case measure => simp [intOf]; omega
    · have e : k = N := by omega
      subst e
      have d1 : decide ((k : Int) < k) = false := decide_eq_false (by omega)
      clear hr
      go_wp2_with fail
      go_ret
      exact ⟨by rw [HG.out, HX.out]; rfl, ho⟩
set_option maxHeartbeats 2000000 in
theorem lRoom_at {w : World} {P : Nat} {A : Value} {c : Cl} {L : List En} (h : ListAt w P A c L) : Grew Try.prog 22 #[.pointer (some ⟨P, 0, none⟩)] w (.int .i64 (roomOf (spans L))) := by
  have CM := Lib.hid (lmade_at h)
  obtain ⟨ad, cp, rfl⟩ := h.slice
  have z3 := h.blk.cell_ 3 rfl
  have HA := Lib.hid h
  have hn := h.len
  obtain ⟨N, hN⟩ : ∃ N, N = L.length := ⟨_, rfl⟩
  have HG : Hid (roomOf (spans L) = roomTo (spans L) N) := by rw [hN, ← spans_len]; rfl
  rw [← hN] at z3 hn
  have HN := Lib.hid hN
  clear h hN
  go_enter Try.func22, Try.ntmps22
  go_wp2_with (first | (go_at_call 37; with_reducible refine Still.use CM.out ?_))
  go_loopw [3, 14] (fun u t wr => ∃ k : Nat, ∃ x : Int, k ≤ N ∧ u = .int .i64 x ∧ t = .int .i64 k ∧ Only [] w wr ∧ x = roomTo (spans L) k ∧ 0 ≤ x ∧ x ≤ 128 * k) (fun _ t _ => N - (intOf t).toNat)
  case atStart => exact ⟨0, 0, Nat.zero_le _, rfl, rfl, Only.refl _ _, rfl, by omega, by omega⟩
  case round =>
    obtain ⟨k, x, hk, rfl, rfl, ho, hx, h1, h2⟩ := hrel
    have hr := HA.out.still ho
    have HX := Lib.hid hx
    clear hx
    by_cases hlt : k < N
    · have d1 : decide ((k : Int) < N) = true := decide_eq_true (by omega)
      obtain ⟨g, cp', e1⟩ := hr.form (by rw [← HN.out]; omega)
      injection e1 with e1 _ e3
      subst e1 e3
      obtain ⟨q0, q1, q2, qf⟩ := own_ents hr.row rfl (j := k) (by rw [← HN.out]; exact hlt)
      obtain ⟨m1, m2⟩ := (hr.get (show k < L.length by rw [← HN.out]; exact hlt)).1.good.many
      have m3 := (hr.get (show k < L.length by rw [← HN.out]; exact hlt)).1.good.len
      have HM : Hid (roomTo (spans L) (k + 1) = roomTo (spans L) k + ((eAt L k).s.st.length - (eAt L k).s.many)) := by show _ = _; rw [roomTo, sAt_spans]
      have CO := fun n => (Objects_at (((hr.get (show k < L.length by rw [← HN.out]; exact hlt)).1.alloc (.cells #[.int .i64 (eAt L k).s.many, .int .i64 (eAt L k).s.start, .pointer (some ⟨(eAt L k).p, 0, none⟩)] 75)).drewN n)).quiet
      generalize (eAt L k).s.st.length = ln at *
      generalize (eAt L k).s.many = mn at *
      generalize (eAt L k).s.start = st at *
      clear hr
      have CO' := Lib.hid CO
      clear CO
      go_wp2_with fail
      go_quiet ((go_at_call 47; exact (CO'.out _).q))
      go_wp2
      go_roundw
      case rel => exact ⟨k + 1, x + (ln - mn), by omega, rfl, by go_num, (ho.alloc _).drewN _, by rw [HM.out, HX.out], by omega, by omega⟩
      case measure => simp [intOf]; omega
    · have e : k = N := by omega
      subst e
      have d1 : decide ((k : Int) < k) = false := decide_eq_false (by omega)
      clear hr
      go_wp2_with fail
      go_ret
      exact ⟨by rw [HG.out, HX.out]; rfl, ho⟩
end Go.Proofs.Ytlmjelcnldlagaa
/- New, Spans, Class of the list. -/
set_option linter.unusedVariables false
set_option linter.unusedSimpArgs false
namespace Go.Proofs.Ytlmjelcnldlagaa
open Go.RowKit

theorem lNew_any (w : World) (c : Cl) : Calls Try.prog 31 #[.agg #[.int .i64 c.size, .int .i64 c.pages, .int .i64 c.batch]] w fun e w' => Only [] w w' ∧
    (c.ok → ∃ P bl, e = .returned (.tuple #[.pointer (some ⟨P, 0, none⟩), .int .i64 0]) ∧ ListSt w' P bl c [] ∧ ∀ b ∈ bl, w.heap.size ≤ b) ∧
    (¬ c.ok → e = .returned (.tuple #[.pointer none, .int .i64 1])) := by
  obtain ⟨x, y, z⟩ := c
  dsimp only
  have C := Lib.hid (fun W => Objects_any W x y z)
  have ho0 := (Only.refl [] w).alloc (.cells #[.int .i64 x, .int .i64 y, .int .i64 z] 23)
  have bX := Blk.new w 23 #[.int .i64 x, .int .i64 y, .int .i64 z]
  have HB := Lib.hid (fun W (ho : Only [] (w.alloc (.cells #[.int .i64 x, .int .i64 y, .int .i64 z] 23)) W) => bX.only ho (by simp))
  by_cases hok : oneP x y z
  · have H := Lib.hid hok
    simp only [if_pos hok] at C
    generalize y * 256 / x = ob at C
    clear hok bX
    go_enter Try.func31, Try.ntmps31
    go_wp2_with (first | (go_at_call 53; with_reducible refine Grew.use (C.out _) (fun w1 ho1 => ?_); have b1 := HB.out _ ho1; have c0 := b1.cell_ 0 rfl; have c1 := b1.cell_ 1 rfl; have c2 := b1.cell_ 2 rfl; clear b1))
    go_ret2
    have h1 := Blk.new w1 68 #[.int .i64 x, .int .i64 y, .int .i64 z, .slice none 0 0]
    refine ⟨(ho0.trans ho1).alloc _, fun _ => ⟨w1.heap.size, [w1.heap.size], rfl, ⟨⟨.slice none 0 0, [], ⟨h1, H.out, World.ownsRow_nil _ _ _ _, by simp, by simp, by simp [Value.ownBlock], List.Pairwise.nil⟩, rfl, ⟨by simp, by simp [Value.ownBlock], by simp⟩⟩, fun b hb => ?_⟩, fun b hb => ?_⟩, fun h => absurd H.out h⟩
    · simp at hb; subst hb; exact h1.lt
    · simp at hb; subst hb; exact (ho0.trans ho1).size
  · have H := Lib.hid hok
    simp only [if_neg hok] at C
    clear hok bX
    go_enter Try.func31, Try.ntmps31
    go_wp2_with (first | (go_at_call 53; with_reducible refine Grew.use (C.out _) (fun w1 ho1 => ?_)))
    go_ret2
    exact ⟨ho0.trans ho1, fun h => absurd h H.out, fun _ => rfl⟩

/-- The runs of the first k spans. -/
def spansTo (M : List Sp) : Nat → List (Int × Int)
  | 0 => []
  | k + 1 => spansTo M k ++ [((sAt M k).start, (sAt M k).pages)]
theorem spansTo_len (M : List Sp) (k : Nat) : (spansTo M k).length = k := by
  induction k with
  | zero => rfl
  | succ k ih => rw [spansTo, List.length_append, ih]; rfl
theorem spansTo_at (M : List Sp) (k j : Nat) (h : j < k) : rAt (spansTo M k) j = ((sAt M j).start, (sAt M j).pages) := by
  induction k with
  | zero => omega
  | succ k ih =>
    rw [spansTo, rAt_snoc, spansTo_len]
    by_cases h1 : j = k
    · rw [if_pos h1, h1]
    · rw [if_neg h1]; exact ih (by omega)
abbrev spansOf (M : List Sp) : List (Int × Int) := spansTo M M.length

set_option maxHeartbeats 2000000 in
theorem lSpans_at {w : World} {P : Nat} {A : Value} {c : Cl} {L : List En} (h : ListAt w P A c L) : Calls Try.prog 16 #[.pointer (some ⟨P, 0, none⟩)] w fun e w' =>
    ∃ v, e = .returned v ∧ Only [] w w' ∧ w'.ownsRow w.heap.size 37 2 v L.length (cellsR (spansOf (spans L))) := by
  have CM := Lib.hid (lmade_at h)
  obtain ⟨ad, cp, rfl⟩ := h.slice
  have z3 := h.blk.cell_ 3 rfl
  have HA := Lib.hid h
  have hn := h.len
  obtain ⟨N, hN⟩ : ∃ N, N = L.length := ⟨_, rfl⟩
  have HG : Hid (spansOf (spans L) = spansTo (spans L) N) := by rw [hN, ← spans_len]; rfl
  rw [← hN] at z3 hn ⊢
  have HN := Lib.hid hN
  obtain ⟨i0, hi, hz0, hz1, hz2⟩ := info_parts info_run
  clear h hN
  go_enter Try.func16, Try.ntmps16
  go_wp2_with (first | (go_at_call 37; with_reducible refine Still.use CM.out ?_))
  go_loopw [3, 14] (fun u t wr => ∃ k : Nat, k ≤ N ∧ t = .int .i64 k ∧ Only [] w wr ∧ wr.ownsRow w.heap.size 37 2 u k (cellsR (spansTo (spans L) k))) (fun _ t _ => N - (intOf t).toNat)
  case atStart => exact ⟨0, Nat.zero_le _, rfl, Only.refl _ _, World.ownsRow_nil _ _ _ _⟩
  case round =>
    obtain ⟨k, hk, rfl, ho, hown⟩ := hrel
    have hr := HA.out.still ho
    by_cases hlt : k < N
    · have d1 : decide ((k : Int) < N) = true := decide_eq_true (by omega)
      obtain ⟨g, cp', e1⟩ := hr.form (by rw [← HN.out]; omega)
      injection e1 with e1 _ e3
      subst e1 e3
      obtain ⟨q0, q1, q2, qf⟩ := own_ents hr.row rfl (j := k) (by rw [← HN.out]; exact hlt)
      have hoA := ho.alloc (.cells #[.int .i64 (eAt L k).s.many, .int .i64 (eAt L k).s.start, .pointer (some ⟨(eAt L k).p, 0, none⟩)] 75)
      have hownA := hown.alloc (.cells #[.int .i64 (eAt L k).s.many, .int .i64 (eAt L k).s.start, .pointer (some ⟨(eAt L k).p, 0, none⟩)] 75)
      have CR := Lib.hid (Run_at ((hr.get (show k < L.length by rw [← HN.out]; exact hlt)).1.alloc (.cells #[.int .i64 (eAt L k).s.many, .int .i64 (eAt L k).s.start, .pointer (some ⟨(eAt L k).p, 0, none⟩)] 75)))
      have HS : Hid (cellsR (spansTo (spans L) (k + 1)) = cellsR (spansTo (spans L) k) ++ [.int .i64 (eAt L k).s.start, .int .i64 (eAt L k).s.pages]) := by show _ = _; rw [spansTo, cellsR_append, sAt_spans]; rfl
      generalize (eAt L k).s.many = mn at *
      generalize (eAt L k).s.start = st at *
      generalize (eAt L k).s.pages = pg at *
      have hsz := hoA.size
      clear hr hown
      go_wp2_with (first
        | (go_at_call 38; with_reducible refine Grew.use CR.out (fun w1 ho1 => ?_); have hown2 := own_only hownA ho1 (by simp); have ho2 := hoA.trans ho1; have hsz2 := ho2.size; clear hownA)
        | (at_builtin; refine wpList_append_own _ rfl _ _ 30 rfl w.heap.size 37 i0 (.agg #[.int .i64 0, .int .i64 0]) 2 16 Try.underlying30 hi hz0 hz1 hz2 rfl (by decide) _ _ _ rfl (hown2.alloc _) ⟨w1.heap.size, 0, none⟩ 1 1 [.int .i64 st, .int .i64 pg] rfl rfl (news_new w1 _ _) (by simp [Value.oneCell']) (by unfold maxLen; omega) (by omega) (by simp; omega) ?_; intro v1 w3 hown3 hg3 _))
      go_roundw
      case rel => exact ⟨k + 1, by omega, by go_num, (ho2.alloc _).grown hg3 (fun b hb => .inr (own_base hown2 b hb)), by rw [HS.out]; exact hown3⟩
      case measure => simp [intOf]; omega
    · have e : k = N := by omega
      subst e
      have d1 : decide ((k : Int) < k) = false := decide_eq_false (by omega)
      clear hr
      go_wp2_with fail
      go_ret
      exact ⟨_, rfl, ho, by rw [HG.out]; exact hown⟩

theorem lClass_at {w : World} {P : Nat} {A : Value} {c : Cl} {L : List En} (h : ListAt w P A c L) : Grew Try.prog 45 #[.pointer (some ⟨P, 0, none⟩)] w (.agg #[.int .i64 c.size, .int .i64 c.pages, .int .i64 c.batch]) := by
  have z0 := h.blk.cell_ 0 rfl
  have z1 := h.blk.cell_ 1 rfl
  have z2 := h.blk.cell_ 2 rfl
  have hp := h.blk.lt
  have CM := Lib.hid (lmade_at (h.still ((Only.refl [] w).alloc (.cells #[.int .i64 0, .int .i64 0, .int .i64 0] 23))))
  clear h
  go_enter Try.func45, Try.ntmps45
  go_wp2_with (first | (go_at_call 37; with_reducible refine Still.use CM.out ?_))
  exact bodyPost_ret (v := .agg #[.int .i64 c.size, .int .i64 c.pages, .int .i64 c.batch]) (by simp [results, Try.results45, go_sem]) rfl ⟨rfl, (Only.refl [] w).alloc _⟩
end Go.Proofs.Ytlmjelcnldlagaa
/- A region that draws its order, whose operations only read and whose callees only make memory: one walk, in the order of the text. -/
set_option linter.unusedVariables false
set_option linter.unusedSimpArgs false
namespace Go.Proofs.Ytlmjelcnldlagaa
open Go.RowKit

/-- The worlds in which nothing that was there has turned. -/
structure After (w : World) where
  w' : World
  ok : Only [] w w'
instance (w : World) : Nonempty (After w) := ⟨⟨w, Only.refl [] w⟩⟩
theorem wp_region_grew {P : Program} {id : Nat} {Q : Exit → Act → World → Prop} {a : Act} {w : World} {l : List Oper} (hm : P.follows .mixedOrders = true) (hB : Region.lexB .any l.toArray = true)
    (h : wpQuiet P l.toArray (fun w' => ∃ u : After w, w' = u.w') (fun a' => ∀ w', (∃ u : After w, w' = u.w') → Q .normal a' w') l a) : (Code.region id l.toArray true).wp P Q a w :=
  wp_region_quiet (C := fun w' => ∃ u : After w, w' = u.w') hm hB ⟨⟨w.drew, (Only.refl [] w).drew⟩, rfl⟩ (by simpa using h)
theorem Grew.g {P : Program} {f : FuncId} {args : Array Value} {w : World} {v : Value} {u : After w} (h : Grew P f args u.w' v) : Calls P f args u.w' fun e w'' => e = .returned v ∧ ∃ u' : After w, w'' = u'.w' :=
  h.mono (by rintro e w' ⟨rfl, ho⟩; exact ⟨rfl, ⟨w', u.ok.trans ho⟩, rfl⟩)
theorem Quiet.grew {P : Program} {f : FuncId} {args : Array Value} {w : World} {v : Value} (h : Quiet P f args w v) : Grew P f args w v := h.mono (by rintro e w' ⟨rfl, hd⟩; exact ⟨rfl, Only.of_dr hd⟩)
theorem Still.grew {P : Program} {f : FuncId} {args : Array Value} {w : World} {v : Value} (h : Still P f args w v) : Grew P f args w v := h.quiet.grew
theorem cell_after {w : World} {p : Addr} {v : Value} (h : w.cell? p = some v) : ∀ u : After w, u.w'.cell? p = some v := fun u => (u.ok.cell (World.block_lt_of_cell? w p h) (by simp)).trans h
end Go.Proofs.Ytlmjelcnldlagaa
/- one of the list. -/
set_option linter.unusedVariables false
set_option linter.unusedSimpArgs false
namespace Go.Proofs.Ytlmjelcnldlagaa
open Go.RowKit

/-- The span that an object is taken from, of the first k. -/
def bestTo (M : List Sp) : Nat → Option Nat
  | 0 => none
  | k + 1 => match bestTo M k with
    | none => if (sAt M k).many < (sAt M k).st.length then some k else none
    | some b => if (sAt M k).many < (sAt M k).st.length ∧ (sAt M b).many < (sAt M k).many then some k else some b
theorem bestTo_lt (M : List Sp) (k b : Nat) (h : bestTo M k = some b) : b < k ∧ (sAt M b).many < (sAt M b).st.length := by
  induction k generalizing b with
  | zero => cases h
  | succ k ih =>
    rw [bestTo] at h
    cases h1 : bestTo M k with
    | none =>
      rw [h1] at h
      simp only at h
      split at h
      · rename_i h2; injection h with h; subst h; exact ⟨by omega, h2⟩
      · cases h
    | some b' =>
      rw [h1] at h
      simp only at h
      split at h
      · rename_i h2; injection h with h; subst h; exact ⟨by omega, h2.1⟩
      · injection h with h
        subst h
        have := ih _ h1
        exact ⟨by omega, this.2⟩
theorem bestTo_first {M : List Sp} {k : Nat} (h : bestTo M k = none) (h2 : (sAt M k).many < (sAt M k).st.length) : bestTo M (k + 1) = some k := by rw [bestTo, h]; exact if_pos h2
theorem bestTo_none {M : List Sp} {k : Nat} (h : bestTo M k = none) (h2 : ¬ (sAt M k).many < (sAt M k).st.length) : bestTo M (k + 1) = none := by rw [bestTo, h]; exact if_neg h2
theorem bestTo_more {M : List Sp} {k b : Nat} (h : bestTo M k = some b) (h2 : (sAt M k).many < (sAt M k).st.length) (h3 : (sAt M b).many < (sAt M k).many) : bestTo M (k + 1) = some k := by rw [bestTo, h]; exact if_pos ⟨h2, h3⟩
theorem bestTo_keep {M : List Sp} {k b : Nat} (h : bestTo M k = some b) (h2 : ¬ ((sAt M k).many < (sAt M k).st.length ∧ (sAt M b).many < (sAt M k).many)) : bestTo M (k + 1) = some b := by rw [bestTo, h]; exact if_neg h2

/-- An object of the fullest span. -/
def one7 (M : List Sp) : (Int × Bool) × List Sp := match bestTo M M.length with
  | none => ((0, false), M)
  | some b => (((sAt M b).take.1.1, true), M.set b (sAt M b).take.2)

theorem sum_full (l : List Int) (h : ∀ i, i < l.length → l.getD i 0 = 1) : l.sum = l.length := by
  induction l with
  | nil => rfl
  | cons x l ih =>
    have h0 := h 0 (by simp)
    have := ih (fun i hi => by simpa using h (i + 1) (by simpa using hi))
    simp at h0 ⊢
    omega
/-- A span that has room gives an object. -/
theorem Sp.take_room {s : Sp} (hg : s.Good) (h : s.many < s.st.length) : ∃ k : Nat, idxOf s.st 0 = k ∧ k < s.st.length ∧ s.st.getD k 0 = 0 ∧ s.take = ((s.start * 256 + k * s.size, 0), s.put k 1) := by
  rcases idxOf_cases s.st 0 with ⟨h1, h2⟩ | ⟨k, h1, h2, h3, _⟩
  · exfalso
    have := sum_full s.st (fun i hi => by
      rcases hg.bits i hi with h3 | h3
      · exact absurd h3 (h2 i hi)
      · exact h3)
    rw [← hg.cnt] at this
    omega
  · refine ⟨k, h1, h2, h3, ?_⟩
    unfold Sp.take Sp.at_
    rw [h1, if_neg (by omega), Int.toNat_natCast]

theorem before_any (w : World) (t1 s1 t2 s2 : Int) (h : s2 ≤ s1) : Grew Try.prog 75 #[.agg #[.int .i64 t1, .int .i64 s1], .agg #[.int .i64 t2, .int .i64 s2]] w (.bool (decide (t2 < t1))) := by
  have ho := ((Only.refl [] w).alloc (.cells #[.int .i64 t1, .int .i64 s1] 72)).alloc (.cells #[.int .i64 t2, .int .i64 s2] 72)
  have d0 : decide (s1 < s2) = false := decide_eq_false (by omega)
  by_cases h1 : t2 < t1
  · have d1 : decide (t2 < t1) = true := decide_eq_true h1
    clear h h1
    go_enter Try.func75, Try.ntmps75
    go_wp2_with fail
    go_ret
    exact ⟨by rw [d1]; rfl, ho⟩
  · have d1 : decide (t2 < t1) = false := decide_eq_false h1
    by_cases h2 : t1 = t2
    · have d2 : (t1 == t2) = true := beq_iff_eq.2 h2
      clear h h1 h2
      go_enter Try.func75, Try.ntmps75
      go_wp2_with fail
      go_ret
      exact ⟨by rw [d1]; rfl, ho⟩
    · have d2 : (t1 == t2) = false := beq_eq_false_iff_ne.2 h2
      clear h h1 h2
      go_enter Try.func75, Try.ntmps75
      go_wp2_with fail
      go_ret
      exact ⟨by rw [d1]; rfl, ho⟩

theorem mem_eAt {L : List En} {e : En} (h : e ∈ L) : ∃ i, i < L.length ∧ e = eAt L i := by
  obtain ⟨i, hi, rfl⟩ := List.getElem_of_mem h
  exact ⟨i, hi, by rw [eAt, List.getD_eq_getElem?_getD, List.getElem?_eq_getElem hi]; rfl⟩
theorem pw_eAt {R : En → En → Prop} {L : List En} : L.Pairwise R ↔ ∀ i j, i < j → j < L.length → R (eAt L i) (eAt L j) := by
  rw [List.pairwise_iff_getElem]
  constructor
  · intro h i j hij hj
    have := h i j (by omega) hj hij
    rwa [show L[i] = eAt L i by rw [eAt, List.getD_eq_getElem?_getD, List.getElem?_eq_getElem (by omega)]; rfl, show L[j] = eAt L j by rw [eAt, List.getD_eq_getElem?_getD, List.getElem?_eq_getElem hj]; rfl] at this
  · intro h i j hi hj hij
    have := h i j hij hj
    rwa [show L[i] = eAt L i by rw [eAt, List.getD_eq_getElem?_getD, List.getElem?_eq_getElem (by omega)]; rfl, show L[j] = eAt L j by rw [eAt, List.getD_eq_getElem?_getD, List.getElem?_eq_getElem hj]; rfl]

/-- Two spans of a list lie apart, whichever comes first. -/
theorem ListAt.ne2 {w : World} {P : Nat} {A : Value} {c : Cl} {L : List En} (h : ListAt w P A c L) {i j : Nat} (hi : i < L.length) (hj : j < L.length) (hij : i ≠ j) : (eAt L i).p ∉ [(eAt L j).p, (eAt L j).q] ∧ (eAt L i).q ∉ [(eAt L j).p, (eAt L j).q] := by
  rcases Nat.lt_or_ge i j with h1 | h1
  · have := h.apart h1 hj
    simp
    exact ⟨⟨this.pp, this.pq⟩, this.qp, this.qq⟩
  · have := h.apart (show j < i by omega) hi
    simp
    exact ⟨⟨fun e => this.pp e.symm, fun e => this.qp e.symm⟩, fun e => this.pq e.symm, fun e => this.qq e.symm⟩

/-- One span of a list has changed, and its count. -/
theorem ListAt.step {w w1 : World} {P g n cp : Nat} {c : Cl} {L : List En} (h : ListAt w P (.slice (some ⟨g, 0, none⟩) n cp) c L) (hn : n = L.length) {b : Nat} (hb : b < L.length) {s' : Sp} (h1 : SpanAt w1 (eAt L b).p (eAt L b).q (eAt L b).cap s') (ho : Only [(eAt L b).p, (eAt L b).q] w w1)
    (e1 : s'.start = (eAt L b).s.start) (e2 : s'.size = (eAt L b).s.size) (e3 : s'.pages = (eAt L b).s.pages) (e4 : s'.batch = (eAt L b).s.batch) :
    ListAt (w1.setCell ⟨g, b * 3, none⟩ (.int .i64 s'.many)) P (.slice (some ⟨g, 0, none⟩) n cp) c (L.set b { eAt L b with s := s' }) := by
  subst hn
  have hB := h.ne _ (eAt_mem hb)
  have hof := (h.get hb).2
  have oS : Only [g] w1 (w1.setCell ⟨g, b * 3, none⟩ (.int .i64 s'.many)) := (Only.refl [g] w1).setCell (.inl (by simp)) _
  have gP : g ≠ P := fun e => h.nA (by rw [e]; rfl)
  have gp : ∀ i, i < L.length → (eAt L i).p ≠ g ∧ (eAt L i).q ≠ g := fun i hi => ⟨fun e => (h.ne _ (eAt_mem hi)).2.2.1 (by rw [e]; rfl), fun e => (h.ne _ (eAt_mem hi)).2.2.2 (by rw [e]; rfl)⟩
  have hset : ∀ i, eAt (L.set b { eAt L b with s := s' }) i = if b = i then { eAt L b with s := s' } else eAt L i := eAt_set _ hb
  refine ⟨(h.blk.only ho (by simp; exact ⟨Ne.symm hB.1, Ne.symm hB.2.1⟩)).only oS (by simpa using Ne.symm gP), h.one, ?_, fun e he => ?_, fun e he => ?_, h.nA, ?_⟩
  · rw [List.length_set, entCells_set L b { eAt L b with s := s' } hb rfl e1]
    exact own_set (own_only h.row ho (fun k hk => by
      have : g = k := by injection hk
      subst this
      have := gp b hb
      simp
      exact ⟨Ne.symm this.1, Ne.symm this.2⟩)) _ _
  · obtain ⟨i, hi, rfl⟩ := mem_eAt he
    rw [List.length_set] at hi
    have hg := gp i hi
    rw [hset i]
    split
    · rename_i hbi
      subst hbi
      exact ⟨h1.only oS (by simpa using hg.1) (by simpa using hg.2), e2.trans hof.1, e3.trans hof.2.1, e4.trans hof.2.2⟩
    · rename_i hbi
      have hd := h.ne2 hi hb (Ne.symm hbi)
      exact ⟨((h.get hi).1.only ho hd.1 hd.2).only oS (by simpa using hg.1) (by simpa using hg.2), (h.get hi).2⟩
  · obtain ⟨i, hi, rfl⟩ := mem_eAt he
    rw [List.length_set] at hi
    rw [hset i]
    split
    · exact hB
    · exact h.ne _ (eAt_mem hi)
  · rw [pw_eAt]
    intro i j hij hj
    rw [List.length_set] at hj
    have := h.apart hij hj
    rw [hset i, hset j]
    split
    · rename_i hbi
      subst hbi
      rw [if_neg (by omega)]
      exact ⟨by rw [e1, e3]; exact this.ord, this.pp, this.pq, this.qp, this.qq⟩
    · split
      · rename_i hbj
        subst hbj
        exact ⟨by rw [e1]; exact this.ord, this.pp, this.pq, this.qp, this.qq⟩
      · exact this

def bestPtr (g : Nat) : Option Nat → Value
  | none => .pointer none
  | some b => .pointer (some ⟨g, b * 3, none⟩)

theorem Sp.take_same (s : Sp) : s.take.2.start = s.start ∧ s.take.2.size = s.size ∧ s.take.2.pages = s.pages ∧ s.take.2.batch = s.batch := by
  unfold Sp.take
  split <;> exact ⟨rfl, rfl, rfl, rfl⟩

theorem ListSt.set {w : World} {P : Nat} {A : Value} {bl : List Nat} {c : Cl} {L : List En} {b : Nat} {s' : Sp} (hb : b < L.length) (h : ListAt w P A c (L.set b { eAt L b with s := s' })) (hi : InBl P A L bl) (hl : ∀ x ∈ bl, x < w.heap.size) : ListSt w P bl c ((spans L).set b s') := by
  refine ⟨⟨A, _, h, by rw [spans, spans, List.map_set], hi.p, hi.a, fun e he => ?_⟩, hl⟩
  obtain ⟨i, hi', rfl⟩ := mem_eAt he
  rw [List.length_set] at hi'
  rw [eAt_set _ hb]
  split
  · show (eAt L b).p ∈ bl ∧ (eAt L b).q ∈ bl
    exact hi.e _ (eAt_mem hb)
  · exact hi.e _ (eAt_mem hi')

set_option maxRecDepth 100000 in
set_option maxHeartbeats 8000000 in
theorem lone_at {w : World} {P : Nat} {bl : List Nat} {c : Cl} {M : List Sp} (h : ListSt w P bl c M) :
    Calls Try.prog 46 #[.pointer (some ⟨P, 0, none⟩)] w fun e w' => e = .returned (.tuple #[.int .i64 (one7 M).1.1, .bool (one7 M).1.2]) ∧ Only bl w w' ∧ ListSt w' P bl c (one7 M).2 := by
  obtain ⟨⟨A, L, hA, rfl, hI⟩, hlt0⟩ := h
  obtain ⟨ad, cp, rfl⟩ := hA.slice
  have z3 := hA.blk.cell_ 3 rfl
  have HA := Lib.hid hA
  have HI := Lib.hid hI
  have HLT := Lib.hid hlt0
  have hn := hA.len
  obtain ⟨N, hN⟩ : ∃ N, N = L.length := ⟨_, rfl⟩
  have HNS : Hid ((spans L).length = N) := by rw [hN, ← spans_len]; rfl
  rw [← hN] at z3 hn
  have HN := Lib.hid hN
  obtain ⟨g, hg⟩ : ∃ g, 0 < N → ad = some ⟨g, 0, none⟩ := by
    rcases Nat.eq_zero_or_pos N with h0 | h0
    · exact ⟨0, fun h => absurd h (by omega)⟩
    · obtain ⟨g, cp', e1⟩ := hA.form (by omega)
      injection e1 with e1
      exact ⟨g, fun _ => e1⟩
  have HG := Lib.hid hg
  clear hA hI hlt0 hN hg
  go_enter Try.func46, Try.ntmps46
  go_wp2_with fail
  go_loopw [4, 14] (fun b t wr => ∃ k : Nat, k ≤ N ∧ t = .int .i64 k ∧ Only [] w wr ∧ b = bestPtr g (bestTo (spans L) k)) (fun _ t _ => N - (intOf t).toNat)
  case atStart => exact ⟨0, Nat.zero_le _, rfl, Only.refl _ _, rfl⟩
  case round =>
    obtain ⟨k, hk, rfl, ho, rfl⟩ := hrel
    have hr := HA.out.still ho
    have z3 := hr.blk.cell_ 3 rfl
    rw [← HN.out] at z3
    by_cases hlt : k < N
    · have d1 : decide ((k : Int) < N) = true := decide_eq_true (by omega)
      obtain rfl := HG.out (by omega)
      obtain ⟨q0, q1, q2, qf⟩ := own_ents hr.row rfl (j := k) (by rw [← HN.out]; exact hlt)
      have C0 := cell_after q0
      have C1 := cell_after q1
      have C2 := cell_after q2
      have CO := Lib.hid (fun u : After wr => Objects_at ((hr.get (show k < L.length by rw [← HN.out]; exact hlt)).1.only u.ok (by simp) (by simp)))
      obtain ⟨m1, m2⟩ := (hr.get (show k < L.length by rw [← HN.out]; exact hlt)).1.good.many
      have m3 := (hr.get (show k < L.length by rw [← HN.out]; exact hlt)).1.good.len
      have EN := Lib.hid (fun (k' : Nat) (e : k' = k + 1) => e)
      cases hb : bestTo (spans L) k with
      | none =>
        by_cases h1 : (eAt L k).s.many < (eAt L k).s.st.length
        · have HB := Lib.hid (bestTo_first hb (by rw [sAt_spans]; exact h1))
          have d2 : decide ((eAt L k).s.many < ((eAt L k).s.st.length : Int)) = true := decide_eq_true h1
          clear hb h1 qf
          generalize (eAt L k).s.many = mk at *
          generalize (eAt L k).s.st.length = lk at *
          clear hr q0 q1 q2
          unfold bestPtr
          go_wp2_with fail
          refine wp_region_grew (by kernel_rfl) (by kernel_rfl) ?_
          repeat (go_big_quiet_step (first | (go_at_call 47; exact Grew.g (Still.grew (CO.out _)))))
          refine wpQuiet_nil ?_
          rintro _ ⟨u, rfl⟩
          go_wp2_with fail
          go_roundw
          case rel => exact ⟨k + 1, by omega, by go_num, ho.trans u.ok, by rw [HB.out] <;> rfl⟩
          case measure => simp [intOf]; try omega
        · have HB := Lib.hid (bestTo_none hb (by rw [sAt_spans]; exact h1))
          have d2 : decide ((eAt L k).s.many < ((eAt L k).s.st.length : Int)) = false := decide_eq_false h1
          clear hb h1 qf
          generalize (eAt L k).s.many = mk at *
          generalize (eAt L k).s.st.length = lk at *
          clear hr q0 q1 q2
          unfold bestPtr
          go_wp2_with fail
          refine wp_region_grew (by kernel_rfl) (by kernel_rfl) ?_
          repeat (go_big_quiet_step (first | (go_at_call 47; exact Grew.g (Still.grew (CO.out _)))))
          refine wpQuiet_nil ?_
          rintro _ ⟨u, rfl⟩
          go_wp2_with fail
          go_roundw
          case rel => exact ⟨k + 1, by omega, by go_num, ho.trans u.ok, by rw [HB.out] <;> rfl⟩
          case measure => simp [intOf]; try omega
      | some b =>
        have hbl := bestTo_lt _ _ _ hb
        have hbk : b < k := hbl.1
        obtain ⟨r0, r1, r2, rf⟩ := own_ents hr.row rfl (j := b) (by rw [← HN.out]; omega)
        have D0 := cell_after r0
        have D1 := cell_after r1
        have hap := (hr.apart hbk (by rw [← HN.out]; exact hlt)).ord
        have hpg := (hr.get (show b < L.length by rw [← HN.out]; omega)).1.good.p1
        have hse : (eAt L b).s.start ≤ (eAt L k).s.start := by omega
        have CB := Lib.hid (fun u : After wr => before_any u.w' (eAt L k).s.many (eAt L k).s.start (eAt L b).s.many (eAt L b).s.start hse)
        clear hap hpg hse hbl
        by_cases h1 : (eAt L k).s.many < (eAt L k).s.st.length
        · have d2 : decide ((eAt L k).s.many < ((eAt L k).s.st.length : Int)) = true := decide_eq_true h1
          by_cases h2 : (eAt L b).s.many < (eAt L k).s.many
          · have HB := Lib.hid (bestTo_more hb (by rw [sAt_spans]; exact h1) (by rw [sAt_spans, sAt_spans]; exact h2))
            rw [decide_eq_true h2] at CB
            clear hb h1 h2 qf rf
            generalize (eAt L k).s.many = mk at *
            generalize (eAt L k).s.st.length = lk at *
            generalize (eAt L k).s.start = sk at *
            generalize (eAt L b).s.many = mb at *
            generalize (eAt L b).s.start = sb at *
            clear hr q0 q1 q2 r0 r1 r2
            unfold bestPtr
            go_wp2_with fail
            refine wp_region_grew (by kernel_rfl) (by kernel_rfl) ?_
            repeat (go_big_quiet_step (first | (go_at_call 47; exact Grew.g (Still.grew (CO.out _))) | (go_at_call 75; exact Grew.g (CB.out _))))
            refine wpQuiet_nil ?_
            rintro _ ⟨u, rfl⟩
            go_wp2_with fail
            go_roundw
            case rel => exact ⟨k + 1, by omega, by go_num, ho.trans u.ok, by rw [HB.out] <;> rfl⟩
            case measure => simp [intOf]; try omega
          · have HB := Lib.hid (bestTo_keep hb (by rw [sAt_spans, sAt_spans]; exact fun h => h2 h.2))
            rw [decide_eq_false h2] at CB
            clear hb h1 h2 qf rf
            generalize (eAt L k).s.many = mk at *
            generalize (eAt L k).s.st.length = lk at *
            generalize (eAt L k).s.start = sk at *
            generalize (eAt L b).s.many = mb at *
            generalize (eAt L b).s.start = sb at *
            clear hr q0 q1 q2 r0 r1 r2
            unfold bestPtr
            go_wp2_with fail
            refine wp_region_grew (by kernel_rfl) (by kernel_rfl) ?_
            repeat (go_big_quiet_step (first | (go_at_call 47; exact Grew.g (Still.grew (CO.out _))) | (go_at_call 75; exact Grew.g (CB.out _))))
            refine wpQuiet_nil ?_
            rintro _ ⟨u, rfl⟩
            go_wp2_with fail
            go_roundw
            case rel => exact ⟨k + 1, by omega, by go_num, ho.trans u.ok, by rw [HB.out] <;> rfl⟩
            case measure => simp [intOf]; try omega
        · have HB := Lib.hid (bestTo_keep hb (by rw [sAt_spans]; exact fun h => h1 h.1))
          have d2 : decide ((eAt L k).s.many < ((eAt L k).s.st.length : Int)) = false := decide_eq_false h1
          clear hb h1 qf rf CB
          generalize (eAt L k).s.many = mk at *
          generalize (eAt L k).s.st.length = lk at *
          clear hr q0 q1 q2 r0 r1 r2 D0 D1
          unfold bestPtr
          go_wp2_with fail
          refine wp_region_grew (by kernel_rfl) (by kernel_rfl) ?_
          repeat (go_big_quiet_step (first | (go_at_call 47; exact Grew.g (Still.grew (CO.out _)))))
          refine wpQuiet_nil ?_
          rintro _ ⟨u, rfl⟩
          go_wp2_with fail
          go_roundw
          case rel => exact ⟨k + 1, by omega, by go_num, ho.trans u.ok, by rw [HB.out] <;> rfl⟩
          case measure => simp [intOf]; try omega
    · have e : k = N := by omega
      subst e
      have d1 : decide ((k : Int) < k) = false := decide_eq_false (by omega)
      cases hb : bestTo (spans L) k with
      | none =>
        have E : Hid (one7 (spans L) = ((0, false), spans L)) := by show _ = _; rw [one7, HNS.out, hb]
        clear hb hr hlt
        unfold bestPtr
        go_wp2_with fail
        go_ret2
        exact ⟨by rw [E.out]; rfl, ho.of_nil, by rw [E.out]; exact ⟨⟨_, L, HA.out.still ho, rfl, HI.out⟩, fun b hb => Nat.lt_of_lt_of_le (HLT.out b hb) ho.size⟩⟩
      | some b =>
        obtain ⟨hbk, hroom⟩ := bestTo_lt _ _ _ hb
        rw [sAt_spans] at hroom
        have E : Hid (one7 (spans L) = (((eAt L b).s.take.1.1, true), (spans L).set b (eAt L b).s.take.2)) := by show _ = _; rw [one7, HNS.out, hb]; dsimp only; rw [sAt_spans]
        obtain rfl := HG.out (by omega)
        have hbL : b < L.length := by rw [← HN.out]; exact hbk
        obtain ⟨r0, r1, r2, rf⟩ := own_ents hr.row rfl hbL
        have hsp := (hr.get hbL).1
        obtain ⟨kk, hi1, hi2, hi3, hi4⟩ := Sp.take_room hsp.good hroom
        have hmany : (eAt L b).s.take.2.many = (eAt L b).s.many + 1 := by rw [hi4]; show _ + (1 - _) = _; rw [hi3]; omega
        have hsame := Sp.take_same (eAt L b).s
        have HR := Lib.hid hr
        have HBL := Lib.hid hbL
        have CT := Lib.hid (Take_at hsp)
        obtain ⟨m1, m2⟩ := hsp.good.many
        have m3 := hsp.good.len
        have hneB := hr.ne _ (eAt_mem hbL)
        have HS := Lib.hid hsame
        have HMANY := Lib.hid hmany
        have gne : g ∉ [(eAt L b).p, (eAt L b).q] := by
          simp
          exact ⟨fun e => hneB.2.2.1 (by rw [e]; rfl), fun e => hneB.2.2.2 (by rw [e]; rfl)⟩
        clear hb hlt hr hi1 hi2 hi3 hi4 hsp hneB hsame hmany
        generalize (eAt L b).s.take.1.2 = te at *
        generalize hta : (eAt L b).s.take.1.1 = ta at *
        generalize (eAt L b).s.take.2 = s2 at *
        unfold bestPtr
        go_wp2_with fail
        refine CT.out.mono ?_
        rintro e w2 ⟨rfl, hsp2, ho2⟩
        have y0 := (ho2.cell (World.block_lt_of_cell? wr _ r0) gne).trans r0
        have yf := (ho2.frozen (World.block_lt_of_cell? wr _ r0) gne).trans (rf (b * 3))
        have hst := HR.out.step rfl HBL.out hsp2 ho2 HS.out.1 HS.out.2.1 HS.out.2.2.1 HS.out.2.2.2
        rw [HMANY.out] at hst
        have HST := Lib.hid hst
        have GB := Lib.hid (HI.out.a g rfl)
        have hsz := (ho.size)
        have hsz2 := ho2.size
        clear hst hsp2
        generalize (eAt L b).s.many = mb at *
        go_wp2_with fail
        go_ret2
        have hin := HI.out.e _ (eAt_mem HBL.out)
        have hoF : Only bl w (w2.setCell ⟨g, b * 3, none⟩ (.int .i64 (mb + 1))) := (ho.of_nil.trans (ho2.mono (fun x hx => by
          simp at hx
          rcases hx with rfl | rfl
          · exact hin.1
          · exact hin.2))).setCell (.inl GB.out) _
        exact ⟨by rw [E.out]; rfl, hoF, by rw [E.out]; exact ListSt.set HBL.out HST.out HI.out (fun x hx => Nat.lt_of_lt_of_le (HLT.out x hx) hoF.size)⟩
end Go.Proofs.Ytlmjelcnldlagaa
/- Take of the list. -/
set_option linter.unusedVariables false
set_option linter.unusedSimpArgs false
namespace Go.Proofs.Ytlmjelcnldlagaa
open Go.RowKit

/-- k objects, one after the other, or as many as there are. -/
def takesTo (M : List Sp) : Nat → List Int × List Sp
  | 0 => ([], M)
  | k + 1 => if (one7 (takesTo M k).2).1.2 = true then ((takesTo M k).1 ++ [(one7 (takesTo M k).2).1.1], (one7 (takesTo M k).2).2) else takesTo M k
theorem takesTo_more {M : List Sp} {k : Nat} (h : (one7 (takesTo M k).2).1.2 = true) : takesTo M (k + 1) = ((takesTo M k).1 ++ [(one7 (takesTo M k).2).1.1], (one7 (takesTo M k).2).2) := if_pos h
theorem takesTo_stop {M : List Sp} {k : Nat} (h : (one7 (takesTo M k).2).1.2 = false) (j : Nat) : takesTo M (k + j) = takesTo M k := by
  induction j with
  | zero => rfl
  | succ j ih =>
    rw [← Nat.add_assoc, takesTo, if_neg]
    · exact ih
    · rw [ih, h]; decide
theorem takesTo_len (M : List Sp) (k : Nat) : (takesTo M k).1.length ≤ k := by
  induction k with
  | zero => exact Nat.le_refl _
  | succ k ih =>
    rw [takesTo]
    split
    · rw [List.length_append]; simp; omega
    · omega

theorem sAt_set {M : List Sp} {j : Nat} (s : Sp) (h : j < M.length) (i : Nat) : sAt (M.set j s) i = if j = i then s else sAt M i := by
  simp only [sAt, List.getD_eq_getElem?_getD, List.getElem?_set]
  by_cases h1 : j = i
  · subst h1; simp [h]
  · simp [h1]
theorem manyTo_set {M : List Sp} {b : Nat} (s : Sp) (h : b < M.length) (k : Nat) : manyTo (M.set b s) k = manyTo M k + (if b < k then s.many - (sAt M b).many else 0) := by
  induction k with
  | zero => simp [manyTo]
  | succ k ih =>
    rw [manyTo, ih, manyTo, sAt_set s h]
    by_cases h1 : b = k
    · subst h1
      rw [if_neg (by omega), if_pos rfl, if_pos (by omega)]
      omega
    · rw [if_neg h1]
      by_cases h2 : b < k
      · rw [if_pos h2, if_pos (by omega)]; omega
      · rw [if_neg h2, if_neg (by omega)]; omega
/-- All spans are good, and of the class. -/
structure GoodL (c : Cl) (M : List Sp) : Prop where
  ok : c.ok
  sp : ∀ j, j < M.length → (sAt M j).Good ∧ (sAt M j).of c
  ord : ∀ i j, i < j → j < M.length → (sAt M i).start + (sAt M i).pages ≤ (sAt M j).start
  len : M.length ≤ 1024
theorem ListAt.goodL {w : World} {P : Nat} {A : Value} {c : Cl} {L : List En} (h : ListAt w P A c L) : GoodL c (spans L) :=
  ⟨h.one, fun j hj => by rw [spans_len] at hj; rw [sAt_spans]; exact ⟨(h.get hj).1.good, (h.get hj).2⟩, fun i j hij hj => by rw [spans_len] at hj; rw [sAt_spans, sAt_spans]; exact (h.apart hij hj).ord, by rw [spans_len]; exact h.len⟩
theorem ListSt.goodL {w : World} {P : Nat} {bl : List Nat} {c : Cl} {M : List Sp} (h : ListSt w P bl c M) : GoodL c M := by
  obtain ⟨⟨A, L, h1, rfl, h3⟩, h4⟩ := h
  exact h1.goodL
theorem GoodL.many {c : Cl} {M : List Sp} (h : GoodL c M) (k : Nat) (hk : k ≤ M.length) : 0 ≤ manyTo M k ∧ manyTo M k ≤ 128 * k := by
  induction k with
  | zero => simp [manyTo]
  | succ k ih =>
    have h1 := ih (by omega)
    have h2 := (h.sp k (by omega)).1.many
    have h3 := (h.sp k (by omega)).1.len
    rw [manyTo]
    omega
theorem GoodL.many_le {c : Cl} {M : List Sp} (h : GoodL c M) : 0 ≤ manyOf M ∧ manyOf M ≤ 131072 := by
  have h1 := h.many M.length (Nat.le_refl _)
  have h2 := h.len
  show 0 ≤ manyTo M M.length ∧ manyTo M M.length ≤ 131072
  omega
theorem one7_some {M : List Sp} (h : (one7 M).1.2 = true) : ∃ b, bestTo M M.length = some b ∧ one7 M = (((sAt M b).take.1.1, true), M.set b (sAt M b).take.2) := by
  unfold one7 at h ⊢
  cases hb : bestTo M M.length with
  | none => rw [hb] at h; cases h
  | some b => exact ⟨b, rfl, rfl⟩
theorem one7_none {M : List Sp} (h : (one7 M).1.2 = false) : bestTo M M.length = none ∧ one7 M = ((0, false), M) := by
  unfold one7 at h ⊢
  cases hb : bestTo M M.length with
  | none => exact ⟨rfl, rfl⟩
  | some b => rw [hb] at h; cases h
theorem GoodL.one_many {c : Cl} {M : List Sp} (h : GoodL c M) (h1 : (one7 M).1.2 = true) : manyOf (one7 M).2 = manyOf M + 1 := by
  obtain ⟨b, hb, he⟩ := one7_some h1
  obtain ⟨hl, hr⟩ := bestTo_lt _ _ _ hb
  obtain ⟨kk, i1, i2, i3, i4⟩ := Sp.take_room (h.sp b hl).1 hr
  rw [he]
  dsimp only [manyOf]
  rw [List.length_set, manyTo_set _ hl, if_pos hl, i4]
  show _ + ((sAt M b).many + (1 - (sAt M b).st.getD kk 0) - (sAt M b).many) = _
  rw [i3]
  omega
def lenV : Value → Nat
  | .slice _ n _ => n
  | _ => 0

theorem lmade_st {w : World} {P : Nat} {bl : List Nat} {c : Cl} {M : List Sp} (h : ListSt w P bl c M) : Still Try.prog 37 #[.pointer (some ⟨P, 0, none⟩)] w (.bool true) := by
  obtain ⟨⟨A, L, h1, rfl, h3⟩, h4⟩ := h
  exact lmade_at h1

set_option maxRecDepth 100000 in
set_option maxHeartbeats 4000000 in
theorem lTake_at {w : World} {P : Nat} {bl : List Nat} {c : Cl} {M : List Sp} (h : ListSt w P bl c M) (many : Int) :
    Calls Try.prog 21 #[.pointer (some ⟨P, 0, none⟩), .int .i64 many] w fun e w' => Only bl w w' ∧ (many < 0 → e = .returned (.tuple #[.slice none 0 0, .int .i64 1]) ∧ ListSt w' P bl c M) ∧
      (0 ≤ many → ∃ v, e = .returned (.tuple #[v, .int .i64 0]) ∧ ListSt w' P bl c (takesTo M many.toNat).2 ∧ w'.ownsRow w.heap.size 3 1 v (takesTo M many.toNat).1.length ((takesTo M many.toNat).1.map (Value.int .i64))) := by
  have CM := Lib.hid (lmade_st h)
  by_cases hm : many < 0
  · have d0 : decide (many < 0) = true := decide_eq_true hm
    have HM := Lib.hid hm
    have HS := Lib.hid h
    clear hm h
    go_enter Try.func21, Try.ntmps21
    go_wp2_with (first | (go_at_call 37; with_reducible refine Still.use CM.out ?_))
    go_ret2
    exact ⟨Only.refl _ _, fun _ => ⟨rfl, HS.out⟩, fun h => absurd h (by have := HM.out; omega)⟩
  · have d0 : decide (many < 0) = false := decide_eq_false hm
    obtain ⟨m, rfl⟩ : ∃ m : Nat, many = m := ⟨many.toNat, by omega⟩
    rw [Int.toNat_natCast]
    have HS := Lib.hid h
    have G0 := Lib.hid h.goodL.many_le
    obtain ⟨i0, hi, hz0, hz1, hz2⟩ := info_parts info_int
    have HLT := Lib.hid h.lt
    clear hm h
    go_enter Try.func21, Try.ntmps21
    go_wp2_with (first | (go_at_call 37; with_reducible refine Still.use CM.out ?_))
    go_loopw [6] (fun u wr => ∃ k : Nat, k ≤ m ∧ Only bl w wr ∧ ListSt wr P bl c (takesTo M k).2 ∧ (takesTo M k).1.length = k ∧ manyOf (takesTo M k).2 = manyOf M + k ∧ wr.ownsRow w.heap.size 3 1 u k ((takesTo M k).1.map (Value.int .i64))) (fun u _ => m - lenV u)
    case atStart => exact ⟨0, Nat.zero_le _, Only.refl _ _, HS.out, rfl, by simp [takesTo], World.ownsRow_nil _ _ _ _⟩
    case round =>
      obtain ⟨k, hk, ho, hst, hl, hmn, hown⟩ := hrel
      obtain ⟨A', c', rfl, _⟩ := own_slice hown
      have gl := hst.goodL.many_le
      have g0 := G0.out
      by_cases hlt : k < m
      · have d1 : decide ((k : Int) < m) = true := decide_eq_true (by omega)
        have CO := Lib.hid (lone_at hst)
        have HH := Lib.hid hst
        have HL := Lib.hid hl
        have HMN := Lib.hid hmn
        have HK := Lib.hid (show k ≤ 131072 by omega)
        clear hst hl hmn gl g0
        cases hok : (one7 (takesTo M k).2).1.2 with
        | true =>
          have HN := Lib.hid (takesTo_more hok)
          have HM2 := Lib.hid (HH.out.goodL.one_many hok)
          have HW := Lib.hid hown
          rw [hok] at CO
          generalize (one7 (takesTo M k).2).1.1 = x at *
          generalize (one7 (takesTo M k).2).2 = M2 at *
          clear hok hown
          go_wp2_with fail
          refine CO.out.mono ?_
          rintro e w2 ⟨rfl, ho2, hst2⟩
          have hown2 := own_only HW.out ho2 (fun b hb hbl => by
            have h1 := own_base HW.out b hb
            have h2 := HLT.out b hbl
            omega)
          have HST2 := Lib.hid hst2
          have hsz := ho.size
          have hsz2 := ho2.size
          have hk2 := HK.out
          clear hst2
          go_wp2_with (at_builtin; refine wpList_append_own _ rfl _ _ 25 rfl w.heap.size 3 i0 (.int .i64 0) 1 8 Try.underlying25 hi hz0 hz1 hz2 rfl (by decide) _ _ _ rfl (hown2.alloc _) ⟨w2.heap.size, 0, none⟩ 1 1 [.int .i64 x] rfl rfl (cell_new1 w2 _ _) (by simp; rfl) (by unfold maxLen; omega) (by omega) (by simp; omega) ?_; intro v1 w3 hown3 hg3 _)
          obtain ⟨A3, c3, rfl, _⟩ := own_slice hown3
          have ho3 : Only (Value.ownBlock (.slice A' k c')).toList w2 w3 := ((Only.refl _ w2).alloc _).grown hg3 (fun b hb => .inl (by have hb' : (Value.ownBlock (.slice A' k c')) = some b := hb; rw [hb']; simp))
          have hst3 := HST2.out.only ho3 (fun b hbl hb => by
            have h1 := own_base hown2 b (by simpa using hb)
            have h2 := HLT.out b hbl
            omega)
          go_roundw
          case rel => exact ⟨k + 1, by omega, ((ho.trans ho2).alloc _).grown hg3 (fun b hb => .inr (own_base hown2 b hb)), by rw [HN.out]; exact hst3, by rw [HN.out, List.length_append, HL.out]; rfl, by rw [HN.out]; show manyOf M2 = _; rw [HM2.out, HMN.out]; omega, by rw [HN.out, List.map_append]; exact hown3⟩
          case measure => simp [lenV]; omega
        | false =>
          have HN := Lib.hid (fun j => takesTo_stop hok j)
          have HE := Lib.hid (one7_none hok).2
          rw [HE.out] at CO
          have HW := Lib.hid hown
          clear hok hown
          go_wp2_with fail
          refine CO.out.mono ?_
          rintro e w2 ⟨rfl, ho2, hst2⟩
          have hown2 := own_only HW.out ho2 (fun b hb hbl => by
            have h1 := own_base HW.out b hb
            have h2 := HLT.out b hbl
            omega)
          have HST2 := Lib.hid hst2
          clear hst2
          go_wp2_with fail
          go_ret2
          have hN : takesTo M m = takesTo M k := by rw [show m = k + (m - k) by omega]; exact HN.out _
          exact ⟨ho.trans ho2, fun h => absurd h (by omega), fun _ => ⟨_, rfl, by rw [hN]; exact HST2.out, by rw [hN, HL.out]; exact hown2⟩⟩
      · have e : k = m := by omega
        subst e
        have d1 : decide ((k : Int) < k) = false := decide_eq_false (by omega)
        have HH := Lib.hid hst
        have HL := Lib.hid hl
        clear hst hl hmn gl g0
        go_wp2_with fail
        go_ret2
        exact ⟨ho, fun h => absurd h (by omega), fun _ => ⟨_, rfl, HH.out, by rw [HL.out]; exact hown⟩⟩
end Go.Proofs.Ytlmjelcnldlagaa

/- Words for memory, used by all contracts of this seat: what a call leaves alone; a block known whole. -/
import Derived.Test.YtlmjelcnldlagaaRows
import Derived.WalkKit
import Derived.WalkSpells
import Derived.WalkLawsBesides
import Derived.BigQuiet
import Derived.Deep.QuietTactic
import Derived.Deep.RegionHeld3
import Derived.Deep.DeepMust
import Derived.Deep.DeepFit
import Derived.Deep.LoopGhost
import Derived.StillTailTactics
import Derived.Lib.Hide
import Derived.ProofKit
import Derived.OpenShut
import Derived.ShutString
import Derived.ChangeOld
import Derived.Deep.Slices
import Derived.Deep.Fields
import Derived.ChangeSame
import Derived.Lib.SmallJoins
set_option linter.unusedVariables false
set_option linter.unusedSimpArgs false
namespace Go.Proofs.Ytlmjelcnldlagaa
open Go.RowKit

def I64 (a : Int) : Prop := -9223372036854775808 ≤ a ∧ a ≤ 9223372036854775807

/-- The call answers v and leaves the world. -/
def Still (P : Program) (f : FuncId) (args : Array Value) (w : World) (v : Value) : Prop := Calls P f args w fun e w' => e = .returned v ∧ w = w'
/-- Orders have been drawn, no more. -/
def Dr (w w' : World) : Prop := ∃ n, w.drewN n = w'
namespace Dr
variable {w w' w'' : World}
theorem refl (w : World) : Dr w w := ⟨0, rfl⟩
theorem drewN (h : Dr w w') (n : Nat) : Dr w (w'.drewN n) := by obtain ⟨m, rfl⟩ := h; exact ⟨m + n, by rw [World.drewN_drewN]⟩
theorem drew (h : Dr w w') : Dr w w'.drew := h.drewN 1
theorem trans (h : Dr w w') (k : Dr w' w'') : Dr w w'' := by obtain ⟨m, rfl⟩ := k; exact h.drewN m
end Dr
/-- The call answers v; orders may have been drawn. -/
def Quiet (P : Program) (f : FuncId) (args : Array Value) (w : World) (v : Value) : Prop := Calls P f args w fun e w' => e = .returned v ∧ Dr w w'
section
variable {P : Program} {f : FuncId} {args : Array Value} {w : World} {v : Value} {R : Ending → World → Prop}
theorem Still.use (h : Still P f args w v) (hR : R (.returned v) w) : Calls P f args w R := h.mono (by rintro e w' ⟨rfl, rfl⟩; exact hR)
theorem Quiet.use (h : Quiet P f args w v) (hR : ∀ n, R (.returned v) (w.drewN n)) : Calls P f args w R := h.mono (by rintro e w' ⟨rfl, n, rfl⟩; exact hR n)
theorem Still.quiet (h : Still P f args w v) : Quiet P f args w v := h.mono (by rintro e w' ⟨rfl, rfl⟩; exact ⟨rfl, 0, rfl⟩)
theorem Quiet.q {n : Nat} (h : Quiet P f args (w.drewN n) v) : Calls P f args (w.drewN n) fun e w'' => e = .returned v ∧ ∃ m, w'' = w.drewN m :=
  h.mono (by rintro e w' ⟨rfl, m, rfl⟩; exact ⟨rfl, n + m, by rw [World.drewN_drewN]⟩)
theorem Quiet.qa {a n : Nat} (h : Quiet P f args (w.drewN (a + n)) v) : Calls P f args (w.drewN (a + n)) fun e w'' => e = .returned v ∧ ∃ m, w'' = w.drewN (a + m) :=
  h.mono (by rintro e w' ⟨rfl, m, rfl⟩; exact ⟨rfl, n + m, by rw [World.drewN_drewN, Nat.add_assoc]⟩)
end

/-- Of the blocks that were there only those of the list may have turned. -/
structure Only (l : List Nat) (w w' : World) : Prop where
  os : w'.os = w.os
  tape : w'.tape = w.tape
  output : w'.output = w.output
  size : w.heap.size ≤ w'.heap.size
  block : ∀ k, k < w.heap.size → k ∉ l → w'.heap[k]? = w.heap[k]?

namespace Only
variable {l l' : List Nat} {a b c w w' : World}
theorem of_dr (h : Dr a b) : Only l a b := by
  obtain ⟨n, rfl⟩ := h
  exact ⟨rfl, rfl, rfl, Nat.le_refl _, fun _ _ _ => rfl⟩
theorem refl (l : List Nat) (w : World) : Only l w w := ⟨rfl, rfl, rfl, Nat.le_refl _, fun _ _ _ => rfl⟩
theorem trans (h : Only l a b) (k : Only l b c) : Only l a c :=
  ⟨k.os.trans h.os, k.tape.trans h.tape, k.output.trans h.output, Nat.le_trans h.size k.size, fun i hi hn => (k.block i (Nat.lt_of_lt_of_le hi h.size) hn).trans (h.block i hi hn)⟩
theorem mono (h : Only l a b) (hl : ∀ k, k ∈ l → k ∈ l') : Only l' a b := ⟨h.os, h.tape, h.output, h.size, fun i hi hn => h.block i hi (fun hk => hn (hl i hk))⟩
theorem of_nil (h : Only [] a b) : Only l a b := h.mono (by simp)
theorem drew (h : Only l a w) : Only l a w.drew := ⟨h.os, h.tape, h.output, h.size, h.block⟩
theorem drewN (h : Only l a w) (n : Nat) : Only l a (w.drewN n) := ⟨h.os, h.tape, h.output, h.size, h.block⟩
theorem alloc (h : Only l a w) (o : Obj) : Only l a (w.alloc o) :=
  ⟨h.os, h.tape, h.output, Nat.le_trans h.size (by simp), fun i hi hn => (Below.heap_alloc w o i (Nat.lt_of_lt_of_le hi h.size)).trans (h.block i hi hn)⟩
theorem setCell (h : Only l a w) {p : Addr} (hp : p.block ∈ l ∨ a.heap.size ≤ p.block) (u : Value) : Only l a (w.setCell p u) :=
  ⟨h.os, h.tape, h.output, by simpa [World.setCell] using h.size, fun i hi hn => (Below.heap_setCell w p u i (by
    rintro rfl
    rcases hp with hp | hp
    · exact hn hp
    · omega)).trans (h.block i hi hn)⟩
theorem below (h : Only [] a b) : Below a.heap.size a b := ⟨h.os, h.tape, h.output, h.size, fun k hk => h.block k hk (by simp)⟩
theorem of_below (h : Below a.heap.size a b) : Only l a b := ⟨h.os, h.tape, h.output, h.size, fun k hk _ => h.block k hk⟩
/-- What is written is new: it does not count. -/
theorem fresh (h : Only l a b) (hl : ∀ k, k ∈ l → a.heap.size ≤ k) : Only [] a b := ⟨h.os, h.tape, h.output, h.size, fun i hi _ => h.block i hi (fun hk => by have := hl i hk; omega)⟩
/-- Later steps that turn only blocks that are new, or of the list. -/
theorem then_ (h : Only l a b) (k : Only l' b c) (hl : ∀ i, i ∈ l' → i ∈ l ∨ a.heap.size ≤ i) : Only l a c :=
  ⟨k.os.trans h.os, k.tape.trans h.tape, k.output.trans h.output, Nat.le_trans h.size k.size, fun i hi hn =>
    (k.block i (Nat.lt_of_lt_of_le hi h.size) (fun hk => by rcases hl i hk with h1 | h1; exact hn h1; omega)).trans (h.block i hi hn)⟩
theorem grown (h : Only l a w) {row : Option Nat} (hg : w.grownBy w' row) (hr : ∀ k, row = some k → k ∈ l ∨ a.heap.size ≤ k) : Only l a w' :=
  ⟨hg.os.trans h.os, hg.tape.trans h.tape, hg.output.trans h.output, Nat.le_trans h.size hg.size, fun i hi hn =>
    (hg.block i (Nat.lt_of_lt_of_le hi h.size) (fun e => by rcases hr i e.symm with h1 | h1; exact hn h1; omega)).trans (h.block i hi hn)⟩
theorem cell (h : Only l a b) {p : Addr} (hp : p.block < a.heap.size) (hn : p.block ∉ l) : b.cell? p = a.cell? p := World.cell?_of_block (w := a) (h.block p.block hp hn)
theorem frozen (h : Only l a b) {p : Addr} (hp : p.block < a.heap.size) (hn : p.block ∉ l) : b.frozen? p = a.frozen? p := World.frozen?_of_block (w := a) (h.block p.block hp hn)
end Only

/-- The call answers v; of what was there nothing has turned. -/
def Grew (P : Program) (f : FuncId) (args : Array Value) (w : World) (v : Value) : Prop := Calls P f args w fun e w' => e = .returned v ∧ Only [] w w'
theorem Grew.use {P : Program} {f : FuncId} {args : Array Value} {w : World} {v : Value} {R : Ending → World → Prop} (h : Grew P f args w v) (hR : ∀ w', Only [] w w' → R (.returned v) w') : Calls P f args w R := h.mono (by rintro e w' ⟨rfl, ho⟩; exact hR _ ho)

/-- Block g holds just the cells cs, of type t, none of them frozen. -/
def Blk (w : World) (g : Nat) (t : TypeId) (cs : Array Value) : Prop := w.heap[g]? = some (.cells cs t (0, 0))
namespace Blk
variable {w w' : World} {g : Nat} {t : TypeId} {cs : Array Value}
theorem lt (h : Blk w g t cs) : g < w.heap.size := (Array.getElem?_eq_some_iff.1 h).1
theorem cell (h : Blk w g t cs) (i : Nat) : w.cell? ⟨g, i, none⟩ = cs[i]? := cell_of_row w g i cs t (0, 0) h
theorem cell_ (h : Blk w g t cs) (i : Nat) {v : Value} (hv : cs[i]? = some v) : w.cell? ⟨g, i, none⟩ = some v := (h.cell i).trans hv
theorem frozen (h : Blk w g t cs) (i : Nat) : w.frozen? ⟨g, i, none⟩ = false := by
  unfold Blk at h
  simp [World.frozen?, h]
theorem new (w : World) (t : TypeId) (cs : Array Value) : Blk (w.alloc (.cells cs t)) w.heap.size t cs := heap_alloc_new w _
theorem drew (h : Blk w g t cs) : Blk w.drew g t cs := h
theorem drewN (h : Blk w g t cs) (n : Nat) : Blk (w.drewN n) g t cs := h
theorem alloc (h : Blk w g t cs) (o : Obj) : Blk (w.alloc o) g t cs := (Below.heap_alloc w o g h.lt).trans h
theorem set_ (h : Blk w g t cs) (i : Nat) (u : Value) : Blk (w.setCell ⟨g, i, none⟩ u) g t (cs.setIfInBounds i u) := by
  unfold Blk at h ⊢
  simp [World.setCell, Array.getElem?_modify, h]
theorem far (h : Blk w g t cs) {p : Addr} (hp : g ≠ p.block) (u : Value) : Blk (w.setCell p u) g t cs := (Below.heap_setCell w p u g hp).trans h
theorem only {l : List Nat} (h : Blk w g t cs) (ho : Only l w w') (hg : g ∉ l) : Blk w' g t cs := (ho.block g h.lt hg).trans h
theorem ne_ {g' : Nat} {t' : TypeId} {cs' : Array Value} (h : Blk w g t cs) (h' : Blk w g' t' cs') (hne : t ≠ t') : g ≠ g' := by
  rintro rfl
  unfold Blk at h h'
  rw [h] at h'
  injection h' with h'
  injection h' with _ ht
  exact hne ht
end Blk

theorem own_drewN {w : World} {base : Nat} {e : TypeId} {size n : Nat} {v : Value} {xs : List Value} (h : w.ownsRow base e size v n xs) (k : Nat) : (w.drewN k).ownsRow base e size v n xs := h
theorem own_only {w w' : World} {l : List Nat} {base : Nat} {e : TypeId} {size n : Nat} {v : Value} {xs : List Value} (h : w.ownsRow base e size v n xs) (ho : Only l w w') (hn : ∀ k, v.ownBlock = some k → k ∉ l) : w'.ownsRow base e size v n xs := by
  obtain ⟨h1, h2⟩ := h
  refine ⟨h1, ?_⟩
  rcases h2 with h2 | ⟨g, cap, cur, rfl, hg, hh, r⟩
  · exact Or.inl h2
  · exact Or.inr ⟨g, cap, cur, rfl, hg, (ho.block g (Array.getElem?_eq_some_iff.1 hh).1 (hn g rfl)).trans hh, r⟩
theorem own_base {w : World} {base : Nat} {e : TypeId} {size n : Nat} {v : Value} {xs : List Value} (h : w.ownsRow base e size v n xs) : ∀ k, v.ownBlock = some k → base ≤ k := by
  intro k hk
  exact (h.lt k hk).1
theorem own_mono {w : World} {base base' : Nat} {e : TypeId} {size n : Nat} {v : Value} {xs : List Value} (h : w.ownsRow base e size v n xs) (hb : base' ≤ base) : w.ownsRow base' e size v n xs := by
  obtain ⟨h1, h2⟩ := h
  refine ⟨h1, ?_⟩
  rcases h2 with h2 | ⟨g, cap, cur, rfl, hg, r⟩
  · exact Or.inl h2
  · exact Or.inr ⟨g, cap, cur, rfl, Nat.le_trans hb hg, r⟩
/-- The shape of what is owned. -/
theorem own_slice {w : World} {base : Nat} {e : TypeId} {size n : Nat} {v : Value} {xs : List Value} (h : w.ownsRow base e size v n xs) : ∃ A c, v = .slice A n c ∧ ∀ ad, A = some ad → base ≤ ad.block := by
  rcases h.2 with ⟨rfl, rfl⟩ | ⟨g, cap, cur, rfl, hb, _⟩
  · exact ⟨none, 0, rfl, by simp⟩
  · exact ⟨_, cap, rfl, by rintro ad e; injection e with e; subst e; exact hb⟩
theorem own_form {w : World} {base : Nat} {e : TypeId} {size n : Nat} {v : Value} {xs : List Value} (h : w.ownsRow base e size v n xs) (hn : 0 < n) : ∃ g c, v = .slice (some ⟨g, 0, none⟩) n c ∧ base ≤ g ∧ g < w.heap.size := by
  rcases h.2 with ⟨rfl, h0⟩ | ⟨g, cap, cur, rfl, hb, hh, _⟩
  · omega
  · exact ⟨g, cap, rfl, hb, (Array.getElem?_eq_some_iff.1 hh).1⟩
theorem one_cell_int (l : List Int) : ∀ u ∈ l.map (Value.int .i64), u.oneCell' = true := by
  intro u hu
  simp at hu
  obtain ⟨x, _, rfl⟩ := hu
  rfl
/-- The one new cell that 'append(out, x)' lays. -/
theorem cell_new1 (w : World) (v : Value) (t : TypeId) : ∀ j u, [v][j]? = some u → (w.alloc (.cells #[v] t)).cell? ((⟨w.heap.size, 0, none⟩ : Addr).add j) = some u := by
  intro j u hj
  match j, hj with
  | 0, hj =>
    simp at hj
    subst hj
    exact (Blk.new w t #[v]).cell_ 0 rfl

theorem ret_int {k : IntKind} {a b : Int} (h : a = b) : Ending.returned (.int k a) = .returned (.int k b) := by rw [h]
theorem ret_bool {a b : Bool} (h : a = b) : Ending.returned (.bool a) = .returned (.bool b) := by rw [h]
theorem ret_int2 {k k' : IntKind} {a b c d : Int} (h : a = b) (h' : c = d) : Ending.returned (.tuple #[.int k a, .int k' c]) = .returned (.tuple #[.int k b, .int k' d]) := by rw [h, h']
theorem ret_bool2 {k' : IntKind} {a b : Bool} {c d : Int} (h : a = b) (h' : c = d) : Ending.returned (.tuple #[.bool a, .int k' c]) = .returned (.tuple #[.bool b, .int k' d]) := by rw [h, h']
end Go.Proofs.Ytlmjelcnldlagaa
/- Arguments opened to plain facts, for the rows of this seat's laws. -/
set_option linter.unusedVariables false
set_option linter.unusedSimpArgs false
namespace Go.Proofs.Ytlmjelcnldlagaa
open Go.RowKit Go.ChangeShapes Go.WideShapes Go.Deep Go.Joins

theorem row_own : ownKnob Try.prog.godebug = none := by kernel_rfl
theorem row_laidOut : laidOutB Try.prog = true := by kernel_rfl

theorem add_next {w : World} {a : Addr} {v : Value} (h : w.cell? a = some v) (i j : Nat) : a.add (i + (j + 1)) = ⟨(a.add i).block, (a.add i).off + (j + 1), none⟩ := by
  obtain ⟨b, o, sp⟩ := a
  have hs : sp = none := by simpa using World.cell?_spot h
  subst hs
  unfold Addr.add
  rw [if_neg (by omega)]
  split
  · rename_i h0; subst h0; simp
  · simp; omega

/-- All fields are of type int. -/
def intFields (P : Program) (fs : Array Field) : Bool := fs.toList.all fun f => match P.underlying f.type with | some (.int .i64) => true | _ => false
theorem intFields.at_ {P : Program} {fs : Array Field} (h : intFields P fs = true) (j : Nat) (f : Field) (hj : fs[j]? = some f) : P.underlying f.type = some (.int .i64) := by
  unfold intFields at h
  rw [List.all_eq_true] at h
  have hm : f ∈ fs.toList := by rw [← Array.getElem?_toList] at hj; exact List.mem_of_getElem? hj
  have := h f hm
  split at this
  · assumption
  · cases this

section
variable {H : Type} {enc : TypeId × Value → H} {P : Program} {w : World} {base : Nat} {spare : Nat → Bool} {held : Bool}
/-- A slice of structs whose fields are all of type int. -/
theorem open_rows {r : Reach} {b0 : Nat} {t e : TypeId} {fs : Array Field} {v : Value} {d : DataW H} {p : List MemPlace} (ht : P.underlying t = some (.slice e)) (he : P.underlying e = some (.struct fs))
    (hone : oneCellFields P fs = true) (hC : P.cellsOf e = fs.size) (h0 : 0 < fs.size) (hif : intFields P fs = true)
    (hv : Value.okWide P w r b0 t v) (h : DataW.Trod enc P w base spare held t v d p) :
    ∃ (A : Option Addr) (n c : Nat) (F : Nat → Nat → Int), v = .slice A n c ∧ n ≤ 9223372036854775807 ∧ (∀ i j, I64 (F i j)) ∧
      (0 < n → ∃ ad, A = some ad ∧ ∀ i, i < n → w.cell? (ad.add (i * fs.size)) = some (.int .i64 (F i 0)) ∧ ∀ j, j + 1 < fs.size → w.cell? ⟨(ad.add (i * fs.size)).block, (ad.add (i * fs.size)).off + (j + 1), none⟩ = some (.int .i64 (F i (j + 1)))) := by
  obtain ⟨A, n, c, rfl⟩ := okWide_slice ht hv
  obtain ⟨fuel, hf⟩ := h
  rcases open_slice ht hf with ⟨hcs, _⟩ | ⟨a, len, cap, m, fu, D, Pl, hcs, _, hl, hm, hmm, _, hi⟩
  · simp [Value.cells] at hcs
    obtain ⟨rfl, rfl, rfl⟩ := hcs
    exact ⟨none, 0, 0, fun _ _ => 0, rfl, by omega, fun _ _ => by show I64 0; unfold I64; omega, fun h => absurd h (by omega)⟩
  · simp [Value.cells] at hcs
    obtain ⟨rfl, rfl, rfl⟩ := hcs
    have hml : n ≤ m := by rw [hmm]; split <;> omega
    have key : ∀ i, i < n → ∀ j, j < fs.size → ∃ x : Int, w.cell? (a.add (i * fs.size + j)) = some (.int .i64 x) ∧ I64 x := by
      intro i hin j hj
      obtain ⟨cs', hc, ht'⟩ := hi i (by omega)
      rw [hC] at hc
      obtain ⟨ys, n', hn', hy, hlen, hyl, hfl⟩ := DataW.trod_struct he ht'
      obtain ⟨_, hcl, hat⟩ := World.cells?_some hc
      have hjf : fs[j]? = some fs[j] := Array.getElem?_eq_getElem hj
      obtain ⟨ho, hk⟩ := hone_of hone j _ hjf
      have h1 := hfl j _ hjf
      rw [ho, hk] at h1
      have hone' : (cs'.drop j).take 1 = [cs'[j]'(by omega)] := by
        rw [List.drop_eq_getElem_cons (by omega)]
        rfl
      rw [hone', List.getElem?_eq_getElem (by omega)] at h1
      obtain ⟨x, hx1, _, hwf⟩ := DataW.trod_int (intFields.at_ hif j _ hjf) h1
      have hx2 : cs'[j]'(by omega) = .int .i64 x := by injection hx1
      refine ⟨x, ?_, bounds_i64 hwf⟩
      rw [← Go.Deep.add_add, hat j hj, List.getElem?_eq_getElem (by omega), hx2]
    refine ⟨some a, n, c, fun i j => if hij : i < n ∧ j < fs.size then Classical.choose (key i hij.1 j hij.2) else 0, rfl, ?_, ?_, ?_⟩
    · have : c ≤ maxLen := hm
      unfold maxLen at this
      omega
    · intro i j
      show I64 (if hij : i < n ∧ j < fs.size then Classical.choose (key i hij.1 j hij.2) else 0)
      split
      · rename_i hij
        exact (Classical.choose_spec (key i hij.1 j hij.2)).2
      · unfold I64; omega
    · intro hn
      refine ⟨a, rfl, fun i hin => ?_⟩
      have hz := (Classical.choose_spec (key 0 hn 0 h0)).1
      have hz0 : w.cell? a = some (.int .i64 (Classical.choose (key 0 hn 0 h0))) := by simpa [Addr.add] using hz
      constructor
      · dsimp only
        rw [dif_pos ⟨hin, h0⟩]
        exact (Classical.choose_spec (key i hin 0 h0)).1
      · intro j hj
        dsimp only
        rw [dif_pos ⟨hin, hj⟩, ← add_next hz0]
        exact (Classical.choose_spec (key i hin (j + 1) hj)).1

theorem open_int3 {r : Reach} {b0 : Nat} {t : TypeId} {f0 f1 f2 : Field} {v : Value} {d : DataW H} {p : List MemPlace} (hs : P.underlying t = some (.struct #[f0, f1, f2])) (hone : oneCellFields P #[f0, f1, f2] = true) (hC : P.cellsOf t = 3)
    (k0 : P.underlying f0.type = some (.int .i64)) (k1 : P.underlying f1.type = some (.int .i64)) (k2 : P.underlying f2.type = some (.int .i64))
    (hv : Value.okWide P w r b0 t v) (h : DataW.Trod enc P w base spare held t v d p) :
    ∃ x0 x1 x2 : Int, v = .agg #[.int .i64 x0, .int .i64 x1, .int .i64 x2] ∧ I64 x0 ∧ I64 x1 ∧ I64 x2 := by
  obtain ⟨v0, v1, v2, y0, y1, y2, n, rfl, _, _, h0, h1, h2⟩ := open_agg3 hs hone hC hv h
  obtain ⟨x0, e0, _, w0⟩ := DataW.trod_int k0 h0
  obtain ⟨x1, e1, _, w1⟩ := DataW.trod_int k1 h1
  obtain ⟨x2, e2, _, w2⟩ := DataW.trod_int k2 h2
  injection e0 with e0
  injection e1 with e1
  injection e2 with e2
  subst e0 e1 e2
  exact ⟨x0, x1, x2, rfl, bounds_i64 w0, bounds_i64 w1, bounds_i64 w2⟩
theorem open_int2 {r : Reach} {b0 : Nat} {t : TypeId} {f0 f1 : Field} {v : Value} {d : DataW H} {p : List MemPlace} (hs : P.underlying t = some (.struct #[f0, f1])) (hone : oneCellFields P #[f0, f1] = true) (hC : P.cellsOf t = 2)
    (k0 : P.underlying f0.type = some (.int .i64)) (k1 : P.underlying f1.type = some (.int .i64))
    (hv : Value.okWide P w r b0 t v) (h : DataW.Trod enc P w base spare held t v d p) :
    ∃ x0 x1 : Int, v = .agg #[.int .i64 x0, .int .i64 x1] ∧ I64 x0 ∧ I64 x1 := by
  obtain ⟨v0, v1, y0, y1, n, rfl, _, _, h0, h1⟩ := open_agg2 hs hone hC hv h
  obtain ⟨x0, e0, _, w0⟩ := DataW.trod_int k0 h0
  obtain ⟨x1, e1, _, w1⟩ := DataW.trod_int k1 h1
  injection e0 with e0
  injection e1 with e1
  subst e0 e1
  exact ⟨x0, x1, rfl, bounds_i64 w0, bounds_i64 w1⟩
end
end Go.Proofs.Ytlmjelcnldlagaa

/- The span as plain data, and what its methods answer. -/
set_option linter.unusedVariables false
set_option linter.unusedSimpArgs false
namespace Go.Proofs.Ytlmjelcnldlagaa

structure Sp where
  start : Int
  size : Int
  pages : Int
  batch : Int
  many : Int
  st : List Int

structure Sp.Good (s : Sp) : Prop where
  s1 : 8 ≤ s.size
  s2 : s.size ≤ 512
  p1 : 1 ≤ s.pages
  p2 : s.pages ≤ 4
  b1 : 0 ≤ s.start
  b2 : s.start ≤ 1024 - s.pages
  n1 : 1 ≤ s.st.length
  n2 : (s.st.length : Int) * s.size ≤ s.pages * 256
  n3 : s.pages * 256 < ((s.st.length : Int) + 1) * s.size
  bits : ∀ i, i < s.st.length → s.st.getD i 0 = 0 ∨ s.st.getD i 0 = 1
  cnt : s.many = s.st.sum

theorem mul_mono {a b c d : Int} (h1 : a ≤ b) (h2 : c ≤ d) (ha : 0 ≤ a) (hd : 0 ≤ d) : a * c ≤ b * d := by
  exact Int.le_trans (Int.mul_le_mul_of_nonneg_left h2 ha) (Int.mul_le_mul_of_nonneg_right h1 hd)

theorem Sp.Good.len {s : Sp} (h : s.Good) : s.st.length ≤ 128 := by
  have h2 := h.n2
  have h3 := h.p2
  have h4 := h.s1
  have h5 : (s.st.length : Int) * 8 ≤ (s.st.length : Int) * s.size := Int.mul_le_mul_of_nonneg_left h4 (by omega)
  omega

/-- i objects lie within the pages. -/
theorem Sp.Good.off {s : Sp} (h : s.Good) {i : Int} (h0 : 0 ≤ i) (h1 : i ≤ s.st.length) : 0 ≤ i * s.size ∧ i * s.size ≤ s.pages * 256 := by
  have h2 := h.n2
  have h4 := h.s1
  have h5 : i * s.size ≤ (s.st.length : Int) * s.size := Int.mul_le_mul_of_nonneg_right h1 (by omega)
  have h6 : 0 * s.size ≤ i * s.size := Int.mul_le_mul_of_nonneg_right h0 (by omega)
  omega

def Sp.at_ (s : Sp) (i : Int) : Int := s.start * 256 + i * s.size
def Sp.idx (s : Sp) (a : Int) : Int × Int :=
  if a < s.start * 256 then (0, 8) else if (s.st.length : Int) * s.size ≤ a - s.start * 256 then (0, 8) else ((a - s.start * 256) / s.size, 0)
def Sp.obj (s : Sp) (a : Int) : Int × Int := if (s.idx a).2 = 0 then (if s.at_ (s.idx a).1 = a then s.idx a else (0, 8)) else s.idx a

/-- slices.Index. -/
def idxOf (l : List Int) (v : Int) : Int := match l.findIdx? (· == v) with | some k => k | none => -1
theorem idxOf_at {l : List Int} {v : Int} {k : Nat} (hk : k < l.length) (hv : l.getD k 0 = v) (hn : ∀ j, j < k → l.getD j 0 ≠ v) : idxOf l v = k := by
  have : l.findIdx? (· == v) = some k := by
    rw [List.findIdx?_eq_some_iff_getElem]
    refine ⟨hk, ?_, fun j hj => ?_⟩
    · simpa [List.getD_eq_getElem?_getD, List.getElem?_eq_getElem hk] using hv
    · have := hn j hj
      simpa [List.getD_eq_getElem?_getD, List.getElem?_eq_getElem (show j < l.length by omega)] using this
  unfold idxOf
  rw [this]
theorem idxOf_none {l : List Int} {v : Int} (hn : ∀ j, j < l.length → l.getD j 0 ≠ v) : idxOf l v = -1 := by
  have : l.findIdx? (· == v) = none := by
    rw [List.findIdx?_eq_none_iff]
    intro x hx
    obtain ⟨j, hj, rfl⟩ := List.getElem_of_mem hx
    have := hn j hj
    simpa [List.getD_eq_getElem?_getD, List.getElem?_eq_getElem hj] using this
  unfold idxOf
  rw [this]

/-- Object i gets the state v. -/
def Sp.put (s : Sp) (i : Nat) (v : Int) : Sp := { s with many := s.many + (v - s.st.getD i 0), st := s.st.set i v }
theorem sum_set (l : List Int) (i : Nat) (v : Int) (hi : i < l.length) : (l.set i v).sum = l.sum + (v - l.getD i 0) := by
  induction l generalizing i with
  | nil => simp at hi
  | cons x l ih =>
    cases i with
    | zero => simp; omega
    | succ i =>
      have := ih i (by simpa using hi)
      simp only [List.set_cons_succ, List.sum_cons, List.getD_cons_succ, this]
      omega
theorem Sp.Good.put {s : Sp} (h : s.Good) {i : Nat} (hi : i < s.st.length) {v : Int} (hv : v = 0 ∨ v = 1) : (s.put i v).Good where
  s1 := h.s1
  s2 := h.s2
  p1 := h.p1
  p2 := h.p2
  b1 := h.b1
  b2 := h.b2
  n1 := by simpa [Sp.put] using h.n1
  n2 := by simpa [Sp.put] using h.n2
  n3 := by simpa [Sp.put] using h.n3
  bits := by
    intro j hj
    have hj' : j < s.st.length := by simpa [Sp.put] using hj
    have := h.bits j hj'
    simp only [Sp.put, List.getD_eq_getElem?_getD, List.getElem?_set] at this ⊢
    split
    · simp [hv]
    · exact this
  cnt := by
    simp only [Sp.put]
    rw [sum_set _ _ _ hi, h.cnt]
theorem sum_range (l : List Int) (h : ∀ i, i < l.length → l.getD i 0 = 0 ∨ l.getD i 0 = 1) : 0 ≤ l.sum ∧ l.sum ≤ l.length := by
  induction l with
  | nil => simp
  | cons x l ih =>
    have h0 := h 0 (by simp)
    have := ih (fun i hi => by simpa using h (i + 1) (by simpa using hi))
    simp at h0 ⊢
    omega
theorem Sp.Good.many {s : Sp} (h : s.Good) : 0 ≤ s.many ∧ s.many ≤ s.st.length := by rw [h.cnt]; exact sum_range _ h.bits

/-- Take: the answer, and the span behind it. -/
def Sp.take (s : Sp) : (Int × Int) × Sp := if idxOf s.st 0 < 0 then ((0, 6), s) else ((s.at_ (idxOf s.st 0), 0), s.put (idxOf s.st 0).toNat 1)
/-- Put: the answer, and the span behind it. -/
def Sp.free (s : Sp) (a : Int) : Int × Sp :=
  if (s.obj a).2 ≠ 0 then ((s.obj a).2, s) else if s.st.getD (s.obj a).1.toNat 0 = 0 then (9, s) else (0, s.put (s.obj a).1.toNat 0)
theorem idxOf_cases (l : List Int) (v : Int) : (idxOf l v = -1 ∧ ∀ j, j < l.length → l.getD j 0 ≠ v) ∨ ∃ k : Nat, idxOf l v = k ∧ k < l.length ∧ l.getD k 0 = v ∧ ∀ j, j < k → l.getD j 0 ≠ v := by
  cases hf : l.findIdx? (· == v) with
  | none =>
    refine .inl ⟨by simp [idxOf, hf], fun j hj => ?_⟩
    rw [List.findIdx?_eq_none_iff] at hf
    have := hf l[j] (List.getElem_mem hj)
    simpa [List.getD_eq_getElem?_getD, List.getElem?_eq_getElem hj] using this
  | some k =>
    rw [List.findIdx?_eq_some_iff_getElem] at hf
    obtain ⟨hk, h1, h2⟩ := hf
    have hv : l.getD k 0 = v := by simpa [List.getD_eq_getElem?_getD, List.getElem?_eq_getElem hk] using h1
    have hn : ∀ j, j < k → l.getD j 0 ≠ v := fun j hj => by
      have := h2 j hj
      simpa [List.getD_eq_getElem?_getD, List.getElem?_eq_getElem (show j < l.length by omega)] using this
    exact .inr ⟨k, idxOf_at hk hv hn, hk, hv, hn⟩
end Go.Proofs.Ytlmjelcnldlagaa
/- Contracts of the span's reading methods. -/
set_option linter.unusedVariables false
set_option linter.unusedSimpArgs false
namespace Go.Proofs.Ytlmjelcnldlagaa
open Go.RowKit

structure SpanAt (w : World) (p q cap : Nat) (s : Sp) : Prop where
  head : Blk w p 102 #[.int .i64 s.start, .int .i64 s.size, .int .i64 s.pages, .int .i64 s.batch, .slice (some ⟨q, 0, none⟩) s.st.length cap, .int .i64 s.many]
  row : ∃ cs : Array Value, Blk w q 3 cs ∧ ∀ i, i < s.st.length → cs[i]? = some (.int .i64 (s.st.getD i 0))
  good : s.Good

namespace SpanAt
variable {w w' : World} {p q cap : Nat} {s : Sp}
theorem c0 (h : SpanAt w p q cap s) : w.cell? ⟨p, 0, none⟩ = some (.int .i64 s.start) := h.head.cell_ 0 rfl
theorem c1 (h : SpanAt w p q cap s) : w.cell? ⟨p, 1, none⟩ = some (.int .i64 s.size) := h.head.cell_ 1 rfl
theorem c2 (h : SpanAt w p q cap s) : w.cell? ⟨p, 2, none⟩ = some (.int .i64 s.pages) := h.head.cell_ 2 rfl
theorem c3 (h : SpanAt w p q cap s) : w.cell? ⟨p, 3, none⟩ = some (.int .i64 s.batch) := h.head.cell_ 3 rfl
theorem c4 (h : SpanAt w p q cap s) : w.cell? ⟨p, 4, none⟩ = some (.slice (some ⟨q, 0, none⟩) s.st.length cap) := h.head.cell_ 4 rfl
theorem c5 (h : SpanAt w p q cap s) : w.cell? ⟨p, 5, none⟩ = some (.int .i64 s.many) := h.head.cell_ 5 rfl
theorem at_ (h : SpanAt w p q cap s) (i : Nat) (hi : i < s.st.length) : w.cell? ⟨q, i, none⟩ = some (.int .i64 (s.st.getD i 0)) := by
  obtain ⟨cs, hb, hc⟩ := h.row
  exact hb.cell_ i (hc i hi)
theorem ne (h : SpanAt w p q cap s) : p ≠ q := by
  obtain ⟨cs, hb, hc⟩ := h.row
  exact h.head.ne_ hb (by decide)
theorem only {l : List Nat} (h : SpanAt w p q cap s) (ho : Only l w w') (hp : p ∉ l) (hq : q ∉ l) : SpanAt w' p q cap s := by
  obtain ⟨cs, hb, hc⟩ := h.row
  exact ⟨h.head.only ho hp, ⟨cs, hb.only ho hq, hc⟩, h.good⟩
theorem drewN (h : SpanAt w p q cap s) (n : Nat) : SpanAt (w.drewN n) p q cap s := ⟨h.head, h.row, h.good⟩
theorem drew (h : SpanAt w p q cap s) : SpanAt w.drew p q cap s := ⟨h.head, h.row, h.good⟩
theorem alloc (h : SpanAt w p q cap s) (o : Obj) : SpanAt (w.alloc o) p q cap s := h.only ((Only.refl [] w).alloc o) (by simp) (by simp)
theorem ltp (h : SpanAt w p q cap s) : p < w.heap.size := h.head.lt
theorem ltq (h : SpanAt w p q cap s) : q < w.heap.size := by obtain ⟨cs, hb, _⟩ := h.row; exact hb.lt
end SpanAt


/-- Neither New nor Clone made it: nil, or a struct of zeros. -/
def Unmade (w : World) (v : Value) : Prop := v = .pointer none ∨ ∃ p, v = .pointer (some ⟨p, 0, none⟩) ∧ Blk w p 102 #[.int .i64 0, .int .i64 0, .int .i64 0, .int .i64 0, .slice none 0 0, .int .i64 0]

set_option maxHeartbeats 400000 in
theorem made_un {w v} (h : Unmade w v) : Still Try.prog 68 #[v] w (.bool false) := by
  rcases h with rfl | ⟨p, rfl, h⟩
  · go_enter Try.func68, Try.ntmps68
    go_wp2
    go_ret
    exact ⟨rfl, rfl⟩
  · have h4 := h.cell_ 4 rfl
    clear h
    go_enter Try.func68, Try.ntmps68
    go_wp2
    go_ret
    exact ⟨rfl, rfl⟩

set_option maxHeartbeats 400000 in
theorem made_at {w p q cap s} (h : SpanAt w p q cap s) : Still Try.prog 68 #[.pointer (some ⟨p, 0, none⟩)] w (.bool true) := by
  have h4 := h.c4
  have hn := h.good.n1
  have hn' : 0 < s.st.length := hn
  clear h
  go_enter Try.func68, Try.ntmps68
  go_wp2
  go_ret
  exact ⟨by simp, rfl⟩

set_option maxHeartbeats 400000 in
theorem addr_at {w p q cap s} (h : SpanAt w p q cap s) (i : Int) (hi0 : 0 ≤ i) (hi1 : i ≤ s.st.length) : Quiet Try.prog 93 #[.pointer (some ⟨p, 0, none⟩), .int .i64 i] w (.int .i64 (s.start * 256 + i * s.size)) := by
  have h0 := h.c0
  have h1 := h.c1
  have hb1 := h.good.b1
  have hb2 := h.good.b2
  have hp1 := h.good.p1
  have hp2 := h.good.p2
  obtain ⟨ho1, ho2⟩ := h.good.off hi0 hi1
  clear h
  go_enter Try.func93, Try.ntmps93
  go_wp2
  go_quiet (fail)
  go_wp2
  go_ret
  exact ⟨rfl, (by repeat (first | exact Dr.refl _ | refine Dr.drewN ?_ _ | refine Dr.drew ?_))⟩

theorem addr_0 {w p q cap s} (h : SpanAt w p q cap s) : Quiet Try.prog 93 #[.pointer (some ⟨p, 0, none⟩), .int .i64 0] w (.int .i64 (s.start * 256)) := by
  have := addr_at h 0 (by omega) (by omega)
  rwa [show s.start * 256 + 0 * s.size = s.start * 256 by omega] at this

theorem Sp.idx_lt {s : Sp} {a : Int} (h : a < s.start * 256) : s.idx a = (0, 8) := by unfold Sp.idx; rw [if_pos h]
theorem Sp.idx_ge {s : Sp} {a : Int} (h : ¬ a < s.start * 256) (h' : (s.st.length : Int) * s.size ≤ a - s.start * 256) : s.idx a = (0, 8) := by unfold Sp.idx; rw [if_neg h, if_pos h']
theorem Sp.idx_in {s : Sp} {a : Int} (h : ¬ a < s.start * 256) (h' : ¬ (s.st.length : Int) * s.size ≤ a - s.start * 256) : s.idx a = ((a - s.start * 256) / s.size, 0) := by unfold Sp.idx; rw [if_neg h, if_neg h']

set_option maxHeartbeats 800000 in
theorem Index_at {w p q cap s} (h : SpanAt w p q cap s) (a : Int) (ha0 : -9223372036854775808 ≤ a) (ha1 : a ≤ 9223372036854775807) : Quiet Try.prog 71 #[.pointer (some ⟨p, 0, none⟩), .int .i64 a] w (.tuple #[.int .i64 (s.idx a).1, .int .i64 (s.idx a).2]) := by
  have h0 := h.c0
  have h1 := h.c1
  have h4 := h.c4
  have hs1 := h.good.s1
  have hb1 := h.good.b1
  have hb2 := h.good.b2
  have hp1 := h.good.p1
  have hp2 := h.good.p2
  have hn2 := h.good.n2
  have hl := h.good.len
  obtain ⟨ho1, ho2⟩ := h.good.off (i := s.st.length) (by omega) (by omega)
  have hs0 : (s.size == 0) = false := beq_eq_false_iff_ne.2 (by omega)
  by_cases hlt : a < s.start * 256
  · have d1 : decide (a < s.start * 256) = true := decide_eq_true hlt
    have HE := Lib.hid (Sp.idx_lt hlt)
    go_enter Try.func71, Try.ntmps71
    go_wp2_with fail
    refine Still.use (made_at h) ?_
    go_wp2_with fail
    refine Quiet.use (addr_0 h) (fun n => ?_)
    go_wp2_with fail
    go_quiet ((go_at_call 93; exact (addr_0 (h.drewN _)).qa))
    go_wp2_with fail
    go_ret2
    exact ⟨by rw [HE.out]; rfl, (by repeat (first | exact Dr.refl _ | refine Dr.drewN ?_ _ | refine Dr.drew ?_))⟩
  · have d1 : decide (a < s.start * 256) = false := decide_eq_false hlt
    by_cases hge : (s.st.length : Int) * s.size ≤ a - s.start * 256
    all_goals
      first | (have d2 : decide ((s.st.length : Int) * s.size ≤ a - s.start * 256) = true := decide_eq_true hge; have HE := Lib.hid (Sp.idx_ge hlt hge)) | (have d2 : decide ((s.st.length : Int) * s.size ≤ a - s.start * 256) = false := decide_eq_false hge; have HE := Lib.hid (Sp.idx_in hlt hge))
      go_enter Try.func71, Try.ntmps71
      go_wp2_with fail
      refine Still.use (made_at h) ?_
      go_wp2_with fail
      refine Quiet.use (addr_0 h) (fun n => ?_)
      go_wp2_with fail
      go_quiet ((go_at_call 93; exact (addr_0 (h.drewN _)).qa))
      go_wp2_with fail
      go_ret2
      exact ⟨by rw [HE.out]; rfl, (by repeat (first | exact Dr.refl _ | refine Dr.drewN ?_ _ | refine Dr.drew ?_))⟩

theorem Sp.idx_range {s : Sp} (hg : s.Good) (a : Int) : 0 ≤ (s.idx a).1 ∧ (s.idx a).1 < s.st.length ∧ ((s.idx a).2 = 0 ∨ (s.idx a).2 = 8) := by
  have h1 := hg.s1
  have h2 := hg.n1
  by_cases hlt : a < s.start * 256
  · rw [Sp.idx_lt hlt]; simp; omega
  · by_cases hge : (s.st.length : Int) * s.size ≤ a - s.start * 256
    · rw [Sp.idx_ge hlt hge]; simp; omega
    · rw [Sp.idx_in hlt hge]
      refine ⟨Int.ediv_nonneg (by omega) (by omega), ?_, .inl rfl⟩
      exact Int.ediv_lt_of_lt_mul (by omega) (by omega)

theorem Sp.obj_yes {s : Sp} {a : Int} (h : (s.idx a).2 = 0) (h' : s.start * 256 + (s.idx a).1 * s.size = a) : s.obj a = s.idx a := by unfold Sp.obj Sp.at_; rw [if_pos h, if_pos h']
theorem Sp.obj_no {s : Sp} {a : Int} (h : (s.idx a).2 = 0) (h' : ¬ s.start * 256 + (s.idx a).1 * s.size = a) : s.obj a = (0, 8) := by unfold Sp.obj Sp.at_; rw [if_pos h, if_neg h']
theorem Sp.obj_out {s : Sp} {a : Int} (h : ¬ (s.idx a).2 = 0) : s.obj a = s.idx a := by unfold Sp.obj; rw [if_neg h]
theorem Sp.obj_range {s : Sp} (hg : s.Good) (a : Int) : 0 ≤ (s.obj a).1 ∧ (s.obj a).1 < s.st.length ∧ ((s.obj a).2 = 0 ∨ (s.obj a).2 = 8) := by
  have := s.idx_range hg a
  have := hg.n1
  unfold Sp.obj
  split
  · split
    · assumption
    · simp; omega
  · assumption

end Go.Proofs.Ytlmjelcnldlagaa
/- Contracts of the span's methods that look an object up. -/
set_option linter.unusedVariables false
set_option linter.unusedSimpArgs false
namespace Go.Proofs.Ytlmjelcnldlagaa
open Go.RowKit

set_option maxHeartbeats 800000 in
theorem object_at {w p q cap s} (h : SpanAt w p q cap s) (a : Int) (ha0 : -9223372036854775808 ≤ a) (ha1 : a ≤ 9223372036854775807) : Quiet Try.prog 72 #[.pointer (some ⟨p, 0, none⟩), .int .i64 a] w (.tuple #[.int .i64 (s.obj a).1, .int .i64 (s.obj a).2]) := by
  obtain ⟨r1, r2, r3⟩ := s.idx_range h.good a
  have C := Index_at h a ha0 ha1
  obtain ⟨i, j, hij⟩ : ∃ i j, s.idx a = (i, j) := ⟨_, _, rfl⟩
  rw [hij] at r1 r2 r3 C
  dsimp only at r1 r2 r3 C
  rcases r3 with rfl | rfl
  · by_cases hy : s.start * 256 + i * s.size = a
    · rw [Sp.obj_yes (by rw [hij]) (by rw [hij]; exact hy), hij]
      have d1 : ((s.start * 256 + i * s.size) != a) = false := bne_eq_false_iff_eq.2 hy
      clear hij hy
      have A := fun n => addr_at (h.drewN n) i r1 (by omega)
      have CH := Lib.hid C
      have AH := Lib.hid A
      clear C A
      go_enter Try.func72, Try.ntmps72
      go_wp2_with (first | (go_at_call 71; refine Quiet.use CH.out (fun n => ?_)) | (go_at_call 93; refine Quiet.use (AH.out _) (fun n => ?_)))
      go_ret2
      exact ⟨rfl, (by repeat (first | exact Dr.refl _ | refine Dr.drewN ?_ _ | refine Dr.drew ?_))⟩
    · rw [Sp.obj_no (by rw [hij]) (by rw [hij]; exact hy)]
      have d1 : ((s.start * 256 + i * s.size) != a) = true := bne_iff_ne.2 hy
      clear hij hy
      have A := fun n => addr_at (h.drewN n) i r1 (by omega)
      have CH := Lib.hid C
      have AH := Lib.hid A
      clear C A
      go_enter Try.func72, Try.ntmps72
      go_wp2_with (first | (go_at_call 71; refine Quiet.use CH.out (fun n => ?_)) | (go_at_call 93; refine Quiet.use (AH.out _) (fun n => ?_)))
      go_ret2
      exact ⟨rfl, (by repeat (first | exact Dr.refl _ | refine Dr.drewN ?_ _ | refine Dr.drew ?_))⟩
  · rw [Sp.obj_out (by rw [hij]; simp), hij]
    clear hij
    have CH := Lib.hid C
    clear C
    go_enter Try.func72, Try.ntmps72
    go_wp2_with (first | (go_at_call 71; refine Quiet.use CH.out (fun n => ?_)))
    go_ret2
    exact ⟨rfl, (by repeat (first | exact Dr.refl _ | refine Dr.drewN ?_ _ | refine Dr.drew ?_))⟩

/-- What IsTaken answers. -/
def Sp.tkn (s : Sp) (a : Int) : Bool × Int := if (s.obj a).2 = 0 then (s.st.getD (s.obj a).1.toNat 0 == 1, 0) else (false, (s.obj a).2)

set_option maxHeartbeats 800000 in
theorem IsTaken_at {w p q cap s} (h : SpanAt w p q cap s) (a : Int) (ha0 : -9223372036854775808 ≤ a) (ha1 : a ≤ 9223372036854775807) : Quiet Try.prog 69 #[.pointer (some ⟨p, 0, none⟩), .int .i64 a] w (.tuple #[.bool (s.tkn a).1, .int .i64 (s.tkn a).2]) := by
  obtain ⟨r1, r2, r3⟩ := s.obj_range h.good a
  have C := object_at h a ha0 ha1
  obtain ⟨i, j, hij⟩ : ∃ i j, s.obj a = (i, j) := ⟨_, _, rfl⟩
  rw [hij] at r1 r2 r3 C
  dsimp only at r1 r2 r3 C
  have hl := h.good.len
  have h4 := h.c4
  rcases r3 with rfl | rfl
  · rw [show s.tkn a = (s.st.getD i.toNat 0 == 1, 0) by unfold Sp.tkn; rw [hij]; rfl]
    clear hij
    obtain ⟨k, rfl⟩ := Int.eq_ofNat_of_zero_le r1
    have hk := h.at_ k (by omega)
    rw [Int.toNat_natCast]
    have CH := Lib.hid C
    clear C h
    go_enter Try.func69, Try.ntmps69
    go_wp2_with (first | (go_at_call 72; refine Quiet.use CH.out (fun n => ?_)))
    go_ret2
    exact ⟨by simp, (by repeat (first | exact Dr.refl _ | refine Dr.drewN ?_ _ | refine Dr.drew ?_))⟩
  · rw [show s.tkn a = (false, 8) by unfold Sp.tkn; rw [hij]; rfl]
    clear hij
    have CH := Lib.hid C
    clear C h
    go_enter Try.func69, Try.ntmps69
    go_wp2_with (first | (go_at_call 72; refine Quiet.use CH.out (fun n => ?_)))
    go_ret2
    exact ⟨rfl, (by repeat (first | exact Dr.refl _ | refine Dr.drewN ?_ _ | refine Dr.drew ?_))⟩

set_option maxHeartbeats 400000 in
theorem Objects_at {w p q cap s} (h : SpanAt w p q cap s) : Still Try.prog 47 #[.pointer (some ⟨p, 0, none⟩)] w (.int .i64 s.st.length) := by
  have h4 := h.c4
  go_enter Try.func47, Try.ntmps47
  go_wp2_with (first | (go_at_call 68; refine Still.use (made_at h) ?_))
  go_ret
  exact ⟨rfl, rfl⟩


end Go.Proofs.Ytlmjelcnldlagaa
/- Contracts of the span's methods that make memory or write. -/
set_option linter.unusedVariables false
set_option linter.unusedSimpArgs false
namespace Go.Proofs.Ytlmjelcnldlagaa
open Go.RowKit

set_option maxHeartbeats 400000 in
theorem Run_at {w p q cap s} (h : SpanAt w p q cap s) : Grew Try.prog 38 #[.pointer (some ⟨p, 0, none⟩)] w (.agg #[.int .i64 s.start, .int .i64 s.pages]) := by
  go_enter Try.func38, Try.ntmps38
  go_wp2_with (first | (go_at_call 68; refine Still.use (made_at (h.alloc _)) ?_))
  have hn := Blk.new w 37 #[.int .i64 0, .int .i64 0]
  have ho := (Only.refl [] w).alloc (.cells #[.int .i64 0, .int .i64 0] 37)
  have h' := h.alloc (.cells #[.int .i64 0, .int .i64 0] 37)
  generalize w.alloc (.cells #[.int .i64 0, .int .i64 0] 37) = w1 at *
  have f0 := h'.c0
  have f2 := h'.c2
  have n0 := hn.cell_ 0 rfl
  have n1 := hn.cell_ 1 rfl
  have z0 := hn.frozen 0
  have z1 := hn.frozen 1
  go_region
  have hn2 := ((hn.set_ 0 (.int .i64 s.start)).set_ 1 (.int .i64 s.pages)).drew
  have ho2 := ((ho.setCell (p := ⟨w.heap.size, 0, none⟩) (.inr (Nat.le_refl _)) (.int .i64 s.start)).setCell (p := ⟨w.heap.size, 1, none⟩) (.inr (Nat.le_refl _)) (.int .i64 s.pages)).drew
  generalize ((w1.setCell ⟨w.heap.size, 0, none⟩ (.int .i64 s.start)).setCell ⟨w.heap.size, 1, none⟩ (.int .i64 s.pages)).drew = w2 at *
  have r0 := hn2.cell_ 0 rfl
  have r1 := hn2.cell_ 1 rfl
  clear f0 f2 n0 n1 z0 z1
  go_wp2
  exact bodyPost_ret (v := .agg #[.int .i64 s.start, .int .i64 s.pages]) (by simp [results, Try.results38, go_sem, r0, r1]) rfl ⟨rfl, ho2⟩


end Go.Proofs.Ytlmjelcnldlagaa
/- Contracts of the span's methods that write: slices.Index, mark, Take, Put. -/
set_option linter.unusedVariables false
set_option linter.unusedSimpArgs false
namespace Go.Proofs.Ytlmjelcnldlagaa
open Go.RowKit

/-- A slice of ints reads as the list. -/
def ReadsI (w : World) (A : Option Addr) (n : Nat) (l : List Int) : Prop := l.length = n ∧ (0 < n → ∃ ad, A = some ad ∧ ∀ j, j < n → w.cell? (ad.add j) = some (.int .i64 (l.getD j 0)))

theorem add_plain (g j : Nat) : (⟨g, 0, none⟩ : Addr).add j = ⟨g, j, none⟩ := by unfold Addr.add; split <;> simp_all
theorem SpanAt.reads {w p q cap s} (h : SpanAt w p q cap s) : ReadsI w (some ⟨q, 0, none⟩) s.st.length s.st := ⟨rfl, fun _ => ⟨_, rfl, fun j hj => by rw [add_plain]; exact h.at_ j hj⟩⟩

set_option maxHeartbeats 400000 in
theorem sindex_any (w : World) (A : Option Addr) (n cap : Nat) (l : List Int) (v : Int) (h : ReadsI w A n l) (hn : n ≤ 4611686018427387904) : Still Try.prog 70 #[.slice A n cap, .int .i64 v] w (.int .i64 (idxOf l v)) := by
  obtain ⟨hl, hc⟩ := h
  have HL := Lib.hid hl
  clear hl
  go_enter Try.func70, Try.ntmps70
  go_wp2
  go_loop [8] (fun t => ∃ k : Nat, k ≤ n ∧ t = .int .i64 k ∧ Hid (∀ j, j < k → l.getD j 0 ≠ v)) (fun t => n - (intOf t).toNat)
  case atStart => exact ⟨0, Nat.zero_le _, rfl, fun j hj => absurd hj (by omega)⟩
  case round =>
    obtain ⟨k, hk, rfl, HN⟩ := hrel
    by_cases hlt : k < n
    · obtain ⟨ad, rfl, hcc⟩ := hc (by omega)
      have hx := hcc k hlt
      clear hcc hc
      by_cases hv : l.getD k 0 = v
      · have HI := Lib.hid (idxOf_at (by rw [HL.out]; exact hlt) hv HN.out)
        have d1 : (v == l.getD k 0) = true := by rw [hv]; simp
        clear hv
        generalize l.getD k 0 = x at *
        go_wp2
        go_ret
        exact ⟨by rw [HI.out]; rfl, rfl⟩
      · have HN' : Hid (∀ j, j < k + 1 → l.getD j 0 ≠ v) := fun j hj => by
          rcases Nat.lt_or_ge j k with h1 | h1
          · exact HN.out j h1
          · rw [show j = k by omega]; exact hv
        have d1 : (v == l.getD k 0) = false := beq_eq_false_iff_ne.2 (fun e => hv e.symm)
        clear hv
        generalize l.getD k 0 = x at hx d1
        go_wp2
        go_round
        case rel => exact ⟨k + 1, by omega, by go_num, HN'⟩
        case measure => simp [intOf]; omega
    · have HI := Lib.hid (idxOf_none (l := l) (v := v) (fun j hj => HN.out j (by rw [HL.out] at hj; omega)))
      clear hc
      go_wp2
      go_ret
      exact ⟨by rw [HI.out]; rfl, rfl⟩

end Go.Proofs.Ytlmjelcnldlagaa
/- Contracts of the span's methods that write: mark, Take, Put. -/
set_option linter.unusedVariables false
set_option linter.unusedSimpArgs false
namespace Go.Proofs.Ytlmjelcnldlagaa
open Go.RowKit

theorem SpanAt.stored {w p q cap s} (h : SpanAt w p q cap s) {i : Nat} (hi : i < s.st.length) {v : Int} (hv : v = 0 ∨ v = 1) {m : Int} (hm : m = s.many + (v - s.st.getD i 0)) :
    SpanAt ((w.setCell ⟨p, 5, none⟩ (.int .i64 m)).drew.setCell ⟨q, i, none⟩ (.int .i64 v)) p q cap (s.put i v) := by
  obtain ⟨cs, hb, hc⟩ := h.row
  have hne := h.ne
  subst hm
  refine ⟨?_, ⟨cs.setIfInBounds i (.int .i64 v), ?_, ?_⟩, h.good.put hi hv⟩
  · have := (((h.head.set_ 5 (.int .i64 (s.many + (v - s.st.getD i 0)))).drew).far (p := ⟨q, i, none⟩) hne (.int .i64 v))
    simpa [Sp.put] using this
  · exact ((hb.far (p := ⟨p, 5, none⟩) (Ne.symm hne) _).drew).set_ i _
  · intro j hj
    have hj' : j < s.st.length := by simpa [Sp.put] using hj
    have hcj := hc j hj'
    by_cases e : i = j
    · subst e
      have hsz : i < cs.size := by rcases Nat.lt_or_ge i cs.size with h1 | h1; exact h1; rw [Array.getElem?_eq_none h1] at hcj; cases hcj
      simp [Sp.put, Array.getElem?_setIfInBounds, hsz, hj', List.getD_eq_getElem?_getD]
    · simp only [Sp.put, Array.getElem?_setIfInBounds, e, if_false, List.getD_eq_getElem?_getD, List.getElem?_set]
      simpa [List.getD_eq_getElem?_getD] using hcj

set_option maxHeartbeats 800000 in
theorem mark_at {w p q cap s} (h : SpanAt w p q cap s) (r c : Nat) (i : Nat) (hi : i < s.st.length) (v : Int) (hv : v = 0 ∨ v = 1) (hr : w.cell? ⟨r, 0, none⟩ = some (.int .i64 i)) (hrp : r ≠ p) (hrq : r ≠ q) :
    Calls Try.prog 73 #[.pointer (some ⟨p, 0, none⟩), .int .i64 v, .slice (some ⟨r, 0, none⟩) 1 c] w fun e w' => e = .returned (.tuple #[]) ∧ SpanAt w' p q cap (s.put i v) ∧ Only [p, q] w w' := by
  have h4 := h.c4
  have h5 := h.c5
  have hx := h.at_ i hi
  have hl := h.good.len
  have hx1 : 0 ≤ s.st.getD i 0 ∧ s.st.getD i 0 ≤ 1 := by have := h.good.bits i hi; omega
  obtain ⟨hx2, hx3⟩ := hx1
  obtain ⟨hm1, hm2⟩ := h.good.many
  obtain ⟨hv1, hv2⟩ : 0 ≤ v ∧ v ≤ 1 := by omega
  obtain ⟨cs, hb, hc⟩ := h.row
  have fz := h.head.frozen 5
  have fq := hb.frozen i
  have hne := h.ne
  have hne' := Ne.symm hne
  have FIN := Lib.hid (h.stored hi hv rfl)
  have HV := Lib.hid hv
  clear hv hc h
  generalize s.st.getD i 0 = x at *
  generalize s.st.length = n at *
  go_enter Try.func73, Try.ntmps73
  go_wp2
  refine wp_loop_rounds 2 ?_
  rw [rounds_succ]
  go_wp2
  go_region
  go_wp2
  rw [rounds_succ]
  go_wp2
  go_end0
  refine ⟨rfl, FIN.out, ?_⟩
  exact ((Only.refl [p, q] w).setCell (p := ⟨p, 5, none⟩) (.inl (by simp)) _).drew.setCell (p := ⟨q, i, none⟩) (.inl (by simp)) _
end Go.Proofs.Ytlmjelcnldlagaa
/- Contracts of Take and Put. -/
set_option linter.unusedVariables false
set_option linter.unusedSimpArgs false
namespace Go.Proofs.Ytlmjelcnldlagaa
open Go.RowKit

theorem Sp.take_none {s : Sp} (h : idxOf s.st 0 = -1) : s.take = ((0, 6), s) := by unfold Sp.take; rw [h]; rfl
theorem Sp.take_some {s : Sp} {k : Nat} (h : idxOf s.st 0 = k) : s.take = ((s.start * 256 + k * s.size, 0), s.put k 1) := by
  unfold Sp.take
  rw [h, if_neg (by omega)]
  rfl

set_option maxHeartbeats 800000 in
theorem Take_at {w p q cap s} (h : SpanAt w p q cap s) :
    Calls Try.prog 76 #[.pointer (some ⟨p, 0, none⟩)] w fun e w' => e = .returned (.tuple #[.int .i64 s.take.1.1, .int .i64 s.take.1.2]) ∧ SpanAt w' p q cap s.take.2 ∧ Only [p, q] w w' := by
  have hl := h.good.len
  have C := sindex_any w (some ⟨q, 0, none⟩) s.st.length cap s.st 0 h.reads (by omega)
  have h4 := h.c4
  rcases idxOf_cases s.st 0 with ⟨hi, _⟩ | ⟨k, hi, hk, hv, _⟩
  · rw [Sp.take_none hi]
    rw [hi] at C
    have CH := Lib.hid C
    clear C hi
    go_enter Try.func76, Try.ntmps76
    go_wp2_with (first | (go_at_call 68; refine Still.use (made_at h) ?_) | (go_at_call 70; refine Still.use CH.out ?_))
    go_ret2
    exact ⟨rfl, h, Only.refl _ _⟩
  · rw [Sp.take_some hi]
    rw [hi] at C
    have CH := Lib.hid C
    have hpq := h.ltp
    have hqq := h.ltq
    have HM := Lib.hid (mark_at (h.alloc (.cells #[.int .i64 k] 3)) w.heap.size 1 k hk 1 (.inr rfl) ((Blk.new w 3 #[.int .i64 k]).cell_ 0 rfl) (by omega) (by omega))
    clear C hi hv
    go_enter Try.func76, Try.ntmps76
    go_wp2_with (first | (go_at_call 68; refine Still.use (made_at h) ?_) | (go_at_call 70; refine Still.use CH.out ?_) | (go_at_call 73; refine HM.out.mono ?_; rintro e w' ⟨rfl, h', ho⟩) | (go_at_call 93; refine Quiet.use (addr_at h' k (by omega) (by simp [Sp.put]; omega)) (fun n => ?_)))
    go_ret2
    exact ⟨rfl, h'.drewN _, (((Only.refl [p, q] w).alloc _).trans ho).drewN _⟩

theorem Sp.free_out {s : Sp} {a i j : Int} (h : s.obj a = (i, j)) (hj : j ≠ 0) : s.free a = (j, s) := by unfold Sp.free; rw [h, if_pos hj]
theorem Sp.free_twice {s : Sp} {a i : Int} (h : s.obj a = (i, 0)) (hv : s.st.getD i.toNat 0 = 0) : s.free a = (9, s) := by unfold Sp.free; rw [h, if_neg (by simp), if_pos hv]
theorem Sp.free_yes {s : Sp} {a i : Int} (h : s.obj a = (i, 0)) (hv : s.st.getD i.toNat 0 ≠ 0) : s.free a = (0, s.put i.toNat 0) := by unfold Sp.free; rw [h, if_neg (by simp), if_neg hv]

set_option maxHeartbeats 800000 in
theorem Put_at {w p q cap s} (h : SpanAt w p q cap s) (a : Int) (ha0 : -9223372036854775808 ≤ a) (ha1 : a ≤ 9223372036854775807) :
    Calls Try.prog 42 #[.pointer (some ⟨p, 0, none⟩), .int .i64 a] w fun e w' => e = .returned (.int .i64 (s.free a).1) ∧ SpanAt w' p q cap (s.free a).2 ∧ Only [p, q] w w' := by
  obtain ⟨r1, r2, r3⟩ := s.obj_range h.good a
  have C := object_at h a ha0 ha1
  obtain ⟨i, j, hij⟩ : ∃ i j, s.obj a = (i, j) := ⟨_, _, rfl⟩
  rw [hij] at r1 r2 r3 C
  dsimp only at r1 r2 r3 C
  have hl := h.good.len
  have h4 := h.c4
  have hpq := h.ltp
  have hqq := h.ltq
  rcases r3 with rfl | rfl
  · obtain ⟨k, rfl⟩ := Int.eq_ofNat_of_zero_le r1
    have hk := h.at_ k (by omega)
    by_cases hv : s.st.getD k 0 = 0
    · rw [Sp.free_twice hij (by rw [Int.toNat_natCast]; exact hv)]
      rw [hv] at hk
      have CH := Lib.hid C
      clear C hij hv
      go_enter Try.func42, Try.ntmps42
      go_wp2_with (first | (go_at_call 72; refine Quiet.use CH.out (fun n => ?_)))
      go_ret
      exact ⟨rfl, h.drewN _, (Only.refl _ _).drewN _⟩
    · rw [Sp.free_yes hij (by rw [Int.toNat_natCast]; exact hv), Int.toNat_natCast]
      have HM := Lib.hid (fun n => mark_at ((h.drewN n).alloc (.cells #[.int .i64 k] 3)) (w.drewN n).heap.size 1 k (by omega) 0 (.inl rfl) ((Blk.new (w.drewN n) 3 #[.int .i64 k]).cell_ 0 rfl) (by have : (w.drewN n).heap.size = w.heap.size := rfl; omega) (by have : (w.drewN n).heap.size = w.heap.size := rfl; omega))
      have d1 : (s.st.getD k 0 == 0) = false := beq_eq_false_iff_ne.2 hv
      have CH := Lib.hid C
      clear C hij hv
      generalize s.st.getD k 0 = x at hk d1
      go_enter Try.func42, Try.ntmps42
      go_wp2_with (first | (go_at_call 72; refine Quiet.use CH.out (fun n => ?_)) | (go_at_call 73; refine (HM.out _).mono ?_; rintro e w' ⟨rfl, h', ho⟩))
      go_ret
      exact ⟨rfl, h', (((Only.refl [p, q] w).drewN _).alloc _).trans ho⟩
  · rw [Sp.free_out hij (by simp)]
    have CH := Lib.hid C
    clear C hij
    go_enter Try.func42, Try.ntmps42
    go_wp2_with (first | (go_at_call 72; refine Quiet.use CH.out (fun n => ?_)))
    go_ret
    exact ⟨rfl, h.drewN _, (Only.refl _ _).drewN _⟩
end Go.Proofs.Ytlmjelcnldlagaa
/- Contracts of sizes.one, objects, Objects and span.New. -/
set_option linter.unusedVariables false
set_option linter.unusedSimpArgs false
namespace Go.Proofs.Ytlmjelcnldlagaa
open Go.RowKit

def oneP (size pages batch : Int) : Prop := 8 ≤ size ∧ size ≤ 512 ∧ size % 8 = 0 ∧ 1 ≤ pages ∧ pages ≤ 4 ∧ size ≤ pages * 256 ∧ 1 ≤ batch ∧ batch ≤ 32
instance (size pages batch : Int) : Decidable (oneP size pages batch) := by unfold oneP; infer_instance

set_option maxHeartbeats 800000 in
theorem one_any (w : World) (size pages batch : Int) : Grew Try.prog 79 #[.agg #[.int .i64 size, .int .i64 pages, .int .i64 batch]] w (.bool (decide (oneP size pages batch))) := by
  go_enter Try.func79, Try.ntmps79
  go_wp2
  all_goals
    go_ret
    refine ⟨?_, (Only.refl [] w).alloc _⟩
    show Ending.returned (Value.bool _) = _
    refine ret_bool ?_
    first
      | (symm; rw [decide_eq_false_iff_not]; unfold oneP; omega)
      | (rw [decide_eq_decide]; unfold oneP; omega)

set_option maxHeartbeats 800000 in
theorem objects_any (w : World) (size pages batch : Int) (h : oneP size pages batch) : Grew Try.prog 80 #[.agg #[.int .i64 size, .int .i64 pages, .int .i64 batch]] w (.int .i64 (pages * 256 / size)) := by
  obtain ⟨h1, h2, h3, h4, h5, h6, h7, h8⟩ := h
  clear h3
  have hs0 : (size == 0) = false := beq_eq_false_iff_ne.2 (by omega)
  go_enter Try.func80, Try.ntmps80
  go_wp2
  go_ret
  exact ⟨rfl, (Only.refl [] w).alloc _⟩

set_option maxHeartbeats 800000 in
theorem Objects_any (w : World) (size pages batch : Int) : Grew Try.prog 53 #[.agg #[.int .i64 size, .int .i64 pages, .int .i64 batch]] w (.tuple #[.int .i64 (if oneP size pages batch then pages * 256 / size else 0), .int .i64 (if oneP size pages batch then 0 else 1)]) := by
  by_cases hone : oneP size pages batch
  · rw [if_pos hone, if_pos hone]
    have C := one_any (w.alloc (.cells #[.int .i64 size, .int .i64 pages, .int .i64 batch] 23)) size pages batch
    rw [decide_eq_true hone] at C
    have CH := Lib.hid C
    have HO := Lib.hid hone
    clear C hone
    go_enter Try.func53, Try.ntmps53
    go_wp2_with (first | (go_at_call 79; refine Grew.use CH.out (fun w1 ho1 => ?_); have b1 := (Blk.new w 23 #[.int .i64 size, .int .i64 pages, .int .i64 batch]).only ho1 (by simp); have b10 := b1.cell_ 0 rfl; have b11 := b1.cell_ 1 rfl; have b12 := b1.cell_ 2 rfl) | (go_at_call 80; refine Grew.use (objects_any w1 size pages batch HO.out) (fun w2 ho2 => ?_)))
    go_ret2
    exact ⟨rfl, (((Only.refl [] w).alloc _).trans ho1).trans ho2⟩
  · rw [if_neg hone, if_neg hone]
    have C := one_any (w.alloc (.cells #[.int .i64 size, .int .i64 pages, .int .i64 batch] 23)) size pages batch
    rw [decide_eq_false hone] at C
    have CH := Lib.hid C
    clear C hone
    go_enter Try.func53, Try.ntmps53
    go_wp2_with (first | (go_at_call 79; refine Grew.use CH.out (fun w1 ho1 => ?_)))
    go_ret2
    exact ⟨rfl, ((Only.refl [] w).alloc _).trans ho1⟩

theorem info_int : (Try.prog.info? 3).map (fun i => (i.zero, i.size, i.bytes)) = some (some (.int .i64 0), 1, 8) := by kernel_rfl
theorem info_u8 : (Try.prog.info? 5).map (fun i => (i.zero, i.size, i.bytes)) = some (some (.int .u8 0), 1, 1) := by kernel_rfl

def Sp.fits (start size pages batch : Int) : Prop := oneP size pages batch ∧ 0 ≤ start ∧ start ≤ 1024 - pages
instance (start size pages batch : Int) : Decidable (Sp.fits start size pages batch) := by unfold Sp.fits; infer_instance
def Sp.fresh (start size pages batch : Int) : Sp := ⟨start, size, pages, batch, 0, List.replicate (pages * 256 / size).toNat 0⟩
theorem Sp.fresh_good {start size pages batch : Int} (h : Sp.fits start size pages batch) : (Sp.fresh start size pages batch).Good := by
  obtain ⟨⟨h1, h2, h3, h4, h5, h6, h7, h8⟩, h9, h10⟩ := h
  have hq0 : 0 ≤ pages * 256 / size := Int.ediv_nonneg (by omega) (by omega)
  have hq1 : pages * 256 / size * size ≤ pages * 256 := Int.ediv_mul_le _ (by omega)
  have hq2 : pages * 256 < (pages * 256 / size + 1) * size := Int.lt_ediv_add_one_mul_self _ (by omega)
  have hq3 : 1 ≤ pages * 256 / size := by
    rcases Int.lt_or_le (pages * 256 / size) 1 with h | h
    · have e : pages * 256 / size = 0 := by omega
      rw [e] at hq2
      omega
    · exact h
  refine ⟨h1, h2, h4, h5, h9, h10, ?_, ?_, ?_, ?_, ?_⟩
  · simp [Sp.fresh]; omega
  · simp only [Sp.fresh, List.length_replicate]; rw [Int.toNat_of_nonneg hq0]; exact hq1
  · simp only [Sp.fresh, List.length_replicate]; rw [Int.toNat_of_nonneg hq0]; exact hq2
  · intro i hi
    left
    simp only [Sp.fresh, List.length_replicate] at hi
    simp only [Sp.fresh, List.getD_eq_getElem?_getD, List.getElem?_replicate]
    split <;> rfl
  · simp [Sp.fresh]

theorem made_row (n : Nat) : ∀ i, i < n → (madeCells #[Value.int .i64 0] n)[i]? = some (.int .i64 ((List.replicate n (0 : Int)).getD i 0)) := by
  intro i hi
  have h := congrArg (fun l => l[i]?) (toList_madeCells_one (.int .i64 0) n)
  simp only [Array.getElem?_toList] at h
  rw [h]
  simp [List.getElem?_replicate, hi, List.getD_eq_getElem?_getD]

set_option maxHeartbeats 800000 in
theorem New_any (w : World) (start size pages batch : Int) (h0 : -9223372036854775808 ≤ start) (h1 : start ≤ 9223372036854775807) :
    Calls Try.prog 48 #[.int .i64 start, .agg #[.int .i64 size, .int .i64 pages, .int .i64 batch]] w fun e w' =>
      (Sp.fits start size pages batch → ∃ p q cap, e = .returned (.tuple #[.pointer (some ⟨p, 0, none⟩), .int .i64 0]) ∧ SpanAt w' p q cap (Sp.fresh start size pages batch) ∧ w.heap.size ≤ p ∧ w.heap.size ≤ q) ∧
      (¬ Sp.fits start size pages batch → e = .returned (.tuple #[.pointer none, .int .i64 1])) ∧ Only [] w w' := by
  by_cases hone : oneP size pages batch
  · have C := Objects_any (w.alloc (.cells #[.int .i64 size, .int .i64 pages, .int .i64 batch] 23)) size pages batch
    rw [if_pos hone, if_pos hone] at C
    have hp1 := hone.2.2.2.1
    have hp2 := hone.2.2.2.2.1
    have HO := Lib.hid hone
    have CH := Lib.hid C
    clear C hone
    by_cases hs0 : start < 0
    · go_enter Try.func48, Try.ntmps48
      go_wp2_with (first | (go_at_call 53; refine Grew.use CH.out (fun w1 ho1 => ?_); have b1 := (Blk.new w 23 #[.int .i64 size, .int .i64 pages, .int .i64 batch]).only ho1 (by simp); have b10 := b1.cell_ 0 rfl; have b11 := b1.cell_ 1 rfl; have b12 := b1.cell_ 2 rfl))
      go_ret2
      exact ⟨fun h => absurd h.2.1 (by omega), fun _ => rfl, ((Only.refl [] w).alloc _).trans ho1⟩
    · by_cases hs1 : 1024 - pages < start
      · go_enter Try.func48, Try.ntmps48
        go_wp2_with (first | (go_at_call 53; refine Grew.use CH.out (fun w1 ho1 => ?_); have b1 := (Blk.new w 23 #[.int .i64 size, .int .i64 pages, .int .i64 batch]).only ho1 (by simp); have b10 := b1.cell_ 0 rfl; have b11 := b1.cell_ 1 rfl; have b12 := b1.cell_ 2 rfl))
        go_ret2
        exact ⟨fun h => absurd h.2.2 (by omega), fun _ => rfl, ((Only.refl [] w).alloc _).trans ho1⟩
      · obtain ⟨i0, hi0, hz0, hz1, hz2⟩ := info_parts info_int
        have hfit : Sp.fits start size pages batch := ⟨HO.out, by omega, by omega⟩
        have hg := Sp.fresh_good hfit
        have hl := hg.len
        obtain ⟨n, hn⟩ : ∃ n : Nat, pages * 256 / size = n := ⟨(pages * 256 / size).toNat, by rw [Int.toNat_of_nonneg]; exact Int.ediv_nonneg (by omega) (by have := HO.out.1; omega)⟩
        have hn' : n ≤ 128 := by simpa [Sp.fresh, hn] using hl
        rw [hn] at CH
        have hmk := fun W => run_make (P := Try.prog) W 25 3 i0 (.int .i64 0) Try.underlying25 hi0 hz0 .i64 .i64 n n (by omega) (by omega) (by rw [hz2]; omega) (by omega)
        simp only [Int.toNat_natCast, hz1] at hmk
        have HN := Lib.hid hn
        have HF := Lib.hid hfit
        clear hn hfit hl hg hz0 hz1 hz2 hi0
        go_enter Try.func48, Try.ntmps48
        go_wp2_with (first | (go_at_call 53; refine Grew.use CH.out (fun w1 ho1 => ?_); have b1 := (Blk.new w 23 #[.int .i64 size, .int .i64 pages, .int .i64 batch]).only ho1 (by simp); have b10 := b1.cell_ 0 rfl; have b11 := b1.cell_ 1 rfl; have b12 := b1.cell_ 2 rfl))
        have b1l := b1.lt
        go_region
        go_wp2
        go_ret2
        have hgd := Sp.fresh_good HF.out
        have hst : (Sp.fresh start size pages batch).st = List.replicate n 0 := by simp [Sp.fresh, HN.out]
        refine ⟨fun _ => ⟨w1.heap.size + 1, w1.heap.size, n, rfl, ⟨?_, ⟨madeCells #[.int .i64 0] n, ?_, ?_⟩, hgd⟩, by omega, by omega⟩, fun h => absurd HF.out h, ?_⟩
        · rw [hst, List.length_replicate]
          have := Blk.new (w1.alloc (.cells (madeCells #[.int .i64 0] n) 3)) 102 #[.int .i64 start, .int .i64 size, .int .i64 pages, .int .i64 batch, .slice (some ⟨w1.heap.size, 0, none⟩) n n, .int .i64 0]
          simpa [Sp.fresh] using this.drew
        · exact ((Blk.new w1 3 (madeCells #[.int .i64 0] n)).alloc _).drew
        · rw [hst, List.length_replicate]
          exact made_row n
        · exact ((((Only.refl [] w).alloc _).trans ho1).alloc _).alloc _ |>.drew
  · have C := Objects_any (w.alloc (.cells #[.int .i64 size, .int .i64 pages, .int .i64 batch] 23)) size pages batch
    rw [if_neg hone, if_neg hone] at C
    have HO := Lib.hid hone
    have CH := Lib.hid C
    clear C hone
    go_enter Try.func48, Try.ntmps48
    go_wp2_with (first | (go_at_call 53; refine Grew.use CH.out (fun w1 ho1 => ?_)))
    go_ret2
    exact ⟨fun h => absurd h.1 HO.out, fun _ => rfl, ((Only.refl [] w).alloc _).trans ho1⟩
end Go.Proofs.Ytlmjelcnldlagaa
/- Contracts of Bits and List. -/
set_option linter.unusedVariables false
set_option linter.unusedSimpArgs false
namespace Go.Proofs.Ytlmjelcnldlagaa
open Go.RowKit

def Sp.bits (s : Sp) : ByteArray := strOfNums (s.st.map (48 + ·))


def Sp.listTo (s : Sp) : Nat → List Int
  | 0 => []
  | k + 1 => s.listTo k ++ (if s.st.getD k 0 = 1 then [s.start * 256 + k * s.size] else [])
def Sp.list (s : Sp) : List Int := s.listTo s.st.length
theorem Sp.listTo_le (s : Sp) (k : Nat) : (s.listTo k).length ≤ k := by
  induction k with
  | zero => simp [Sp.listTo]
  | succ k ih => simp only [Sp.listTo, List.length_append]; split <;> simp <;> omega

end Go.Proofs.Ytlmjelcnldlagaa
/- Contracts of slices.Clone and Clone. -/
set_option linter.unusedVariables false
set_option linter.unusedSimpArgs false
namespace Go.Proofs.Ytlmjelcnldlagaa
open Go.RowKit

theorem own0 (w : World) (t : Nat) : (w.alloc (.cells #[] t)).ownsRow w.heap.size t 1 (.slice (some ⟨w.heap.size, 0, none⟩) 0 0) 0 [] := World.ownsRow_lit w #[] 0 (Nat.le_refl _) (Nat.zero_le _) rfl

set_option maxHeartbeats 1000000 in
theorem sclone_any (w : World) (ad : Addr) (n cap : Nat) (l : List Int) (h : ReadsI w (some ad) n l) (hn : n ≤ 1000000) (h0 : 0 < n) : Calls Try.prog 81 #[.slice (some ad) n cap] w fun e w' =>
    ∃ v, e = .returned v ∧ w'.ownsRow w.heap.size 3 1 v n (l.map (Value.int .i64)) ∧ Only [] w w' := by
  obtain ⟨i0, hi, hz0, hz1, hz2⟩ := info_parts info_int
  have hnil := Lib.run_eql_slice_nil (P := Try.prog) w 25 3 (some ad) n cap 0 0 Try.underlying25
  obtain ⟨hl, hc⟩ := h
  obtain ⟨ad', he, hc⟩ := hc h0
  obtain rfl : ad = ad' := by injection he
  have HL := Lib.hid hl
  have HC := Lib.hid (fun j (u : Value) (hu : (l.map (Value.int .i64))[j]? = some u) => (by
    have hj : j < n := by
      rcases Nat.lt_or_ge j n with h1 | h1
      · exact h1
      · rw [List.getElem?_eq_none (by rw [List.length_map, hl]; exact h1)] at hu; cases hu
    have hcell := hc j hj
    rw [List.getElem?_map, List.getElem?_eq_getElem (by omega)] at hu
    have hb : (ad.add j).block < w.heap.size := World.block_lt_of_cell? w _ hcell
    rw [World.cell?_alloc_lt w _ _ hb, hcell]
    rw [List.getD_eq_getElem?_getD, List.getElem?_eq_getElem (by omega)]
    exact hu : (w.alloc (.cells #[] 3)).cell? (ad.add j) = some u))
  clear hl hc he
  go_enter Try.func81, Try.ntmps81
  go_wp2_with (at_builtin; refine wpList_append_own _ rfl _ _ 25 rfl w.heap.size 3 i0 (.int .i64 0) 1 8 Try.underlying25 hi hz0 hz1 hz2 rfl (by decide) _ _ _ rfl (own0 w _) ad n cap (l.map (Value.int .i64)) rfl (by rw [List.length_map, HL.out, Nat.mul_one]) HC.out (one_cell_int l) (by unfold maxLen; omega) (by omega) (by simp) ?_; intro v1 w1 hown1 hg1 _)
  go_ret
  refine ⟨_, rfl, by simpa using hown1, ((Only.refl [] w).alloc _).grown hg1 (fun k hk => .inr (own_base (own0 w 0) k hk))⟩

theorem SpanAt.of_clone {w : World} {p q g cap' : Nat} {s : Sp} (hg : s.Good) (hh : Blk w p 102 #[.int .i64 s.start, .int .i64 s.size, .int .i64 s.pages, .int .i64 s.batch, .slice (some ⟨g, 0, none⟩) s.st.length cap', .int .i64 s.many]) (ho : w.ownsRow q 3 1 (.slice (some ⟨g, 0, none⟩) s.st.length cap') s.st.length (s.st.map (Value.int .i64))) : SpanAt w p g cap' s := by
  refine ⟨hh, ?_, hg⟩
  rcases ho.2 with ⟨h1, _⟩ | ⟨g', c', cur, he, _, hb, _, _, _, ht⟩
  · cases h1
  · injection he with he1 he2 he3
    injection he1 with he1
    injection he1 with he1
    subst he1
    refine ⟨cur, hb, fun i hi => ?_⟩
    have := congrArg (fun l => l[i]?) ht
    simp only [List.getElem?_take, Nat.mul_one, hi, if_true, Array.getElem?_toList, List.getElem?_map, List.getElem?_eq_getElem hi] at this
    rw [this, List.getD_eq_getElem?_getD, List.getElem?_eq_getElem hi]
    rfl

set_option maxHeartbeats 1000000 in
theorem Clone_at {w p q cap s} (h : SpanAt w p q cap s) : Calls Try.prog 55 #[.pointer (some ⟨p, 0, none⟩)] w fun e w' =>
    ∃ p' q' cap', e = .returned (.pointer (some ⟨p', 0, none⟩)) ∧ SpanAt w' p' q' cap' s ∧ w.heap.size ≤ p' ∧ w.heap.size ≤ q' ∧ Only [] w w' := by
  have hl := h.good.len
  have hn1 := h.good.n1
  have c0 := h.c0
  have c1 := h.c1
  have c2 := h.c2
  have c3 := h.c3
  have c4 := h.c4
  have c5 := h.c5
  have hpl := h.ltp
  have hql := h.ltq
  go_enter Try.func55, Try.ntmps55
  go_wp2_with (first | (go_at_call 68; refine Still.use (made_at h) ?_) | (go_at_call 81; refine (sclone_any _ ⟨q, 0, none⟩ s.st.length cap s.st (h.alloc _).reads (by omega) (by omega)).mono ?_; rintro e w1 ⟨v, rfl, hown, ho⟩; obtain ⟨g, c', rfl, hg1, hg2⟩ := own_form hown (by omega); have b1 := (Blk.new w 102 #[.int .i64 s.start, .int .i64 s.size, .int .i64 s.pages, .int .i64 s.batch, .slice (some ⟨q, 0, none⟩) s.st.length cap, .int .i64 s.many]).only ho (by simp); have f4 := b1.frozen 4; have b4 := b1.cell_ 4 rfl))
  go_ret
  have hg1' : w.heap.size + 1 ≤ g := by simpa using hg1
  refine ⟨w.heap.size, g, c', rfl, SpanAt.of_clone h.good ?_ (own_only hown ((Only.refl [w.heap.size] w1).setCell (p := ⟨w.heap.size, 4, none⟩) (.inl (by simp)) _) ?_), Nat.le_refl _, by omega, ?_⟩
  · simpa using b1.set_ 4 (.slice (some ⟨g, 0, none⟩) s.st.length c')
  · intro k hk
    simp [Value.ownBlock] at hk
    simp
    omega
  · exact (((Only.refl [] w).alloc _).trans ho).setCell (p := ⟨w.heap.size, 4, none⟩) (.inr (Nat.le_refl _)) _

theorem idx_of_obj {s : Sp} (hg : s.Good) {i m : Int} (h0 : 0 ≤ i) (h1 : i < s.st.length) (hm0 : 0 ≤ m) (hm : m < s.size) : s.idx (s.start * 256 + i * s.size + m) = (i, 0) := by
  have e : (s.start * 256 + i * s.size + m - s.start * 256) = i * s.size + m := by omega
  have hs := hg.s1
  have hle : i * s.size + m < (i + 1) * s.size := by rw [Int.add_mul]; omega
  have hle2 : (i + 1) * s.size ≤ (s.st.length : Int) * s.size := Int.mul_le_mul_of_nonneg_right (by omega) (by omega)
  have hge : 0 ≤ i * s.size := Int.mul_nonneg h0 (by omega)
  have hd : (i * s.size + m) / s.size = i := by
    rw [Int.add_comm, Int.add_mul_ediv_right _ _ (by omega), Int.ediv_eq_zero_of_lt hm0 hm]
    omega
  unfold Sp.idx
  rw [if_neg (by omega), e, if_neg (by omega), hd]

end Go.Proofs.Ytlmjelcnldlagaa

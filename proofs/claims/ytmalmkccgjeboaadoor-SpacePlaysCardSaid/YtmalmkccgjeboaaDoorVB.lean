/- The model of a space, and what it is in memory. -/
import Derived.Test.YtmalmkccgjeboaaDoorVA
set_option linter.unusedVariables false
set_option linter.unusedSimpArgs false
namespace Go.Proofs.YtmalmkccgjeboaaDoor
open Go.RowKit

/-- A space: its pages, the state of each (0 unmapped, 1 clean, 2 dirty), what each word holds, the peak. -/
structure SpM where
  n : Nat
  st : Int → Int
  h : Int → Int
  pk : Int

/-- How many of the first k pages are in a state. -/
def cntTo (st : Int → Int) (v : Int) : Nat → Nat
  | 0 => 0
  | k + 1 => cntTo st v k + if st k = v then 1 else 0
theorem cntTo_le (st : Int → Int) (v : Int) (k : Nat) : cntTo st v k ≤ k := by
  induction k with
  | zero => exact Nat.le_refl _
  | succ k ih => unfold cntTo; split <;> omega
theorem cntTo_congr {st st' : Int → Int} {v : Int} (k : Nat) (h : ∀ i : Nat, i < k → (st i = v ↔ st' i = v)) : cntTo st v k = cntTo st' v k := by
  induction k with
  | zero => rfl
  | succ k ih =>
    unfold cntTo
    rw [ih (fun i hi => h i (by omega))]
    have := h k (by omega)
    by_cases e : st k = v
    · rw [if_pos e, if_pos (this.1 e)]
    · rw [if_neg e, if_neg (fun e' => e (this.2 e'))]
/-- One page is turned to a state or away from it. -/
theorem cntTo_set (st : Int → Int) (v x : Int) (p : Nat) : ∀ k : Nat, p < k → cntTo (fun i => if i = (p : Int) then x else st i) v k + (if st p = v then 1 else 0) = cntTo st v k + (if x = v then 1 else 0) := by
  intro k
  induction k with
  | zero => intro h; omega
  | succ k ih =>
    intro hp
    simp only [cntTo]
    by_cases e : p = k
    · subst e
      have e1 : cntTo (fun i => if i = (p : Int) then x else st i) v p = cntTo st v p := cntTo_congr p (fun i hi => by
        have : ¬ ((i : Int) = (p : Int)) := by omega
        simp [this])
      rw [e1]
      simp
      omega
    · have e2 : ¬ ((k : Int) = (p : Int)) := by omega
      have := ih (by omega)
      simp only [if_neg e2]
      omega

namespace SpM
/-- What New makes. -/
def fresh (n : Nat) : SpM := ⟨n, fun _ => 0, fun _ => 0, 0⟩
/-- The dirty pages. -/
def dirty (m : SpM) : Nat := cntTo m.st 2 m.n
/-- A run of pages gets a state without memory. -/
def setR (m : SpM) (a b v : Int) : SpM := { m with st := fun i => if a ≤ i ∧ i < a + b then v else m.st i, h := fun j => if a ≤ j / 32 ∧ j / 32 < a + b then 0 else m.h j }
/-- A word is written. -/
def putW (m : SpM) (j v : Int) : SpM :=
  { m with st := fun i => if i = j / 32 then 2 else m.st i, h := fun k => if k = j then v else m.h k,
           pk := if m.st (j / 32) = 2 then m.pk else max m.pk (cntTo (fun i => if i = j / 32 then 2 else m.st i) 2 m.n) }
/-- What holds of each space that was made. -/
structure good (m : SpM) : Prop where
  n1 : 1 ≤ m.n
  n2 : m.n ≤ 1024
  s1 : ∀ i, m.st i = 0 ∨ m.st i = 1 ∨ m.st i = 2
  h0 : ∀ j, m.st (j / 32) ≠ 2 → m.h j = 0
  h1 : ∀ j, I64 (m.h j)
  p0 : (m.dirty : Int) ≤ m.pk
  p1 : m.pk ≤ 1024
end SpM

/-- Half k of the pages' cells: mapped, memory. -/
def pcell (st : Int → Int) (k : Nat) : Value := if k % 2 = 0 then .bool (st ((k / 2 : Nat) : Int) != 0) else .bool (st ((k / 2 : Nat) : Int) == 2)

/-- The package's variables hold what their text says. -/
structure Env (w : World) : Prop where
  u0 : w.cell? ⟨0, 0, none⟩ = some (.bool false)
  u1 : w.cell? ⟨0, 1, none⟩ = some (.bool false)
  c0 : w.cell? ⟨1, 0, none⟩ = some (.bool true)
  c1 : w.cell? ⟨1, 1, none⟩ = some (.bool false)
  d0 : w.cell? ⟨2, 0, none⟩ = some (.bool true)
  d1 : w.cell? ⟨2, 1, none⟩ = some (.bool true)
theorem Env.only {w w' : World} {l : List Nat} (h : Env w) (ho : Only l w w') (hl : ∀ b ∈ l, 3 ≤ b) : Env w' := by
  have h0 : (0 : Nat) ∉ l := fun hb => by have := hl _ hb; omega
  have h1 : (1 : Nat) ∉ l := fun hb => by have := hl _ hb; omega
  have h2 : (2 : Nat) ∉ l := fun hb => by have := hl _ hb; omega
  exact ⟨(ho.cell (p := ⟨0, 0, none⟩) (World.block_lt_of_cell? w _ h.u0) h0).trans h.u0, (ho.cell (p := ⟨0, 1, none⟩) (World.block_lt_of_cell? w _ h.u1) h0).trans h.u1,
    (ho.cell (p := ⟨1, 0, none⟩) (World.block_lt_of_cell? w _ h.c0) h1).trans h.c0, (ho.cell (p := ⟨1, 1, none⟩) (World.block_lt_of_cell? w _ h.c1) h1).trans h.c1,
    (ho.cell (p := ⟨2, 0, none⟩) (World.block_lt_of_cell? w _ h.d0) h2).trans h.d0, (ho.cell (p := ⟨2, 1, none⟩) (World.block_lt_of_cell? w _ h.d1) h2).trans h.d1⟩

/-- Block g holds the first n values of f. -/
def Row (w : World) (g : Nat) (n : Nat) (f : Nat → Value) : Prop := ∃ t cs, Blk w g t cs ∧ n ≤ cs.size ∧ ∀ k, k < n → cs[k]? = some (f k)
namespace Row
variable {w w' : World} {g n : Nat} {f f' : Nat → Value}
theorem lt (h : Row w g n f) : g < w.heap.size := by obtain ⟨t, cs, hb, _⟩ := h; exact hb.lt
theorem only {l : List Nat} (h : Row w g n f) (ho : Only l w w') (hg : g ∉ l) : Row w' g n f := by obtain ⟨t, cs, hb, r⟩ := h; exact ⟨t, cs, hb.only ho hg, r⟩
theorem cell (h : Row w g n f) {k : Nat} (hk : k < n) : w.cell? ⟨g, k, none⟩ = some (f k) := by obtain ⟨t, cs, hb, h1, h2⟩ := h; exact hb.cell_ k (h2 k hk)
theorem frozen (h : Row w g n f) (k : Nat) : w.frozen? ⟨g, k, none⟩ = false := by obtain ⟨t, cs, hb, _⟩ := h; exact hb.frozen k
theorem congr (h : Row w g n f) (he : ∀ k, k < n → f k = f' k) : Row w g n f' := by
  obtain ⟨t, cs, hb, h1, h2⟩ := h
  exact ⟨t, cs, hb, h1, fun k hk => by rw [h2 k hk, he k hk]⟩
theorem set_ (h : Row w g n f) (i : Nat) (u : Value) : Row (w.setCell ⟨g, i, none⟩ u) g n (fun k => if k = i then u else f k) := by
  obtain ⟨t, cs, hb, h1, h2⟩ := h
  refine ⟨t, _, hb.set_ i u, by simpa using h1, fun k hk => ?_⟩
  rw [Array.getElem?_setIfInBounds]
  by_cases e : i = k
  · subst e
    simp [show i < cs.size by omega]
  · rw [if_neg e, h2 k hk]
    dsimp only
    rw [if_neg (fun e' => e e'.symm)]
theorem drew (h : Row w g n f) : Row w.drew g n f := h
theorem alloc (h : Row w g n f) (o : Obj) : Row (w.alloc o) g n f := by obtain ⟨t, cs, hb, r⟩ := h; exact ⟨t, cs, hb.alloc o, r⟩
theorem far (h : Row w g n f) {p : Addr} (hp : g ≠ p.block) (u : Value) : Row (w.setCell p u) g n f := by obtain ⟨t, cs, hb, r⟩ := h; exact ⟨t, cs, hb.far hp u, r⟩
end Row

/-- Where the parts of a space lie: the pages in block gp, the map in block gm, the words of page i in block G i. -/
structure Parts (w : World) (p : Nat) (l : List Nat) (m : SpM) (gp cap gm : Nat) (G : Int → Option Nat) : Prop where
  pl : p ∈ l
  gl : gp ∈ l
  ml : gm ∈ l
  pg : p ≠ gp
  pm : p ≠ gm
  gg : gp ≠ gm
  blk : Blk w p 58 #[.slice (some ⟨gp, 0, none⟩) m.n cap, .map (some gm), .int .i64 m.pk]
  cap_ : m.n ≤ cap
  row : Row w gp (2 * m.n) (pcell m.st)
  dict : Dict w gm G m.dirty
  words : ∀ i g, G i = some g → (0 ≤ i ∧ i < m.n ∧ m.st i = 2) ∧ g ∈ l ∧ g ≠ p ∧ g ≠ gp ∧ g ≠ gm ∧ Row w g 32 (fun k => .int .i64 (m.h (32 * i + k)))
  all : ∀ i : Int, 0 ≤ i → i < m.n → m.st i = 2 → ∃ g, G i = some g
  inj : ∀ i j g, G i = some g → G j = some g → i = j

/-- Where a space lies: its struct in block p, all that it may write in blocks of l. -/
structure SpaceAt (w : World) (p : Nat) (l : List Nat) (m : SpM) : Prop where
  good : m.good
  l3 : ∀ b ∈ l, 3 ≤ b
  lt : ∀ b ∈ l, b < w.heap.size
  at_ : ∃ (gp cap gm : Nat) (G : Int → Option Nat), Parts w p l m gp cap gm G

theorem Parts.only {w w' : World} {p : Nat} {l l' : List Nat} {m : SpM} {gp cap gm : Nat} {G : Int → Option Nat} (h : Parts w p l m gp cap gm G) (ho : Only l' w w') (hl : ∀ b ∈ l, b ∉ l') : Parts w' p l m gp cap gm G := by
  obtain ⟨a1, a2, a3, a4, a5, a6, b1, b2, b3, b4, b5, b6, b7⟩ := h
  refine ⟨a1, a2, a3, a4, a5, a6, b1.only ho (hl _ a1), b2, b3.only ho (hl _ a2), b4.only ho (hl _ a3), fun i g hi => ?_, b6, b7⟩
  obtain ⟨c1, c2, c3, c4, c5, c6⟩ := b5 i g hi
  exact ⟨c1, c2, c3, c4, c5, c6.only ho (hl _ c2)⟩
theorem SpaceAt.only {w w' : World} {p : Nat} {l l' : List Nat} {m : SpM} (h : SpaceAt w p l m) (ho : Only l' w w') (hl : ∀ b ∈ l, b ∉ l') : SpaceAt w' p l m := by
  obtain ⟨hg, h3, h4, gp, cap, gm, G, hp⟩ := h
  exact ⟨hg, h3, fun b hb => Nat.lt_of_lt_of_le (h4 b hb) ho.size, gp, cap, gm, G, hp.only ho hl⟩
theorem SpaceAt.still {w w' : World} {p : Nat} {l : List Nat} {m : SpM} (h : SpaceAt w p l m) (ho : Only [] w w') : SpaceAt w' p l m := h.only ho (by simp)
end Go.Proofs.YtmalmkccgjeboaaDoor

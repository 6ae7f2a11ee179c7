/- Tables of classes: the plain law's words. -/
import Derived.Test.YtgicapdiiknbiaaBase
set_option linter.unusedVariables false
set_option linter.unusedSimpArgs false
namespace Go.Proofs.Ytgicapdiiknbiaa
open Go.RowKit

/-- A class. -/
structure Cl where
  s : Int
  p : Int
  b : Int
deriving DecidableEq

def oneP (size pages batch : Int) : Prop := 8 ≤ size ∧ size ≤ 512 ∧ size % 8 = 0 ∧ 1 ≤ pages ∧ pages ≤ 4 ∧ size ≤ pages * 256 ∧ 1 ≤ batch ∧ batch ≤ 32
instance (size pages batch : Int) : Decidable (oneP size pages batch) := by unfold oneP; infer_instance

namespace Cl
def z : Cl := ⟨0, 0, 0⟩
def ok (c : Cl) : Prop := oneP c.s c.p c.b
instance (c : Cl) : Decidable c.ok := by unfold ok; infer_instance
/-- Objects of a span. -/
def n (c : Cl) : Int := c.p * 256 / c.s
/-- Bytes left. -/
def t (c : Cl) : Int := c.p * 256 - c.n * c.s
def cells (c : Cl) : List Value := [.int .i64 c.s, .int .i64 c.p, .int .i64 c.b]
def val (c : Cl) : Value := .agg #[.int .i64 c.s, .int .i64 c.p, .int .i64 c.b]
end Cl

/-- Class j of a list. -/
abbrev cAt (l : List Cl) (j : Nat) : Cl := l.getD j Cl.z

/-- Is the list a table as far as its first k classes? -/
def validTo (l : List Cl) (k : Nat) : Prop := ∀ i, i < k → (cAt l i).ok ∧ (0 < i → (cAt l (i - 1)).s < (cAt l i).s)
instance (l : List Cl) (k : Nat) : Decidable (validTo l k) := by unfold validTo; infer_instance
/-- Is the list a table? -/
def isTable (l : List Cl) : Prop := 1 ≤ l.length ∧ l.length ≤ 40 ∧ validTo l l.length
instance (l : List Cl) : Decidable (isTable l) := by unfold isTable; infer_instance

theorem validTo_succ {l : List Cl} {k : Nat} (h : validTo l k) (h1 : (cAt l k).ok) (h2 : 0 < k → (cAt l (k - 1)).s < (cAt l k).s) : validTo l (k + 1) := by
  intro i hi
  rcases Nat.lt_or_ge i k with h3 | h3
  · exact h i h3
  · have e : i = k := by omega
    subst e
    exact ⟨h1, h2⟩

/-- The greatest power of two that is at most n (n at most 256). -/
def pw (n : Int) : Int := if n < 1 then 0 else if n < 2 then 1 else if n < 4 then 2 else if n < 8 then 4 else if n < 16 then 8 else if n < 32 then 16 else if n < 64 then 32 else if n < 128 then 64 else if n < 256 then 128 else 256
/-- Is it a power of two from 1 to 256? -/
def isPow (a : Int) : Prop := a = 1 ∨ a = 2 ∨ a = 4 ∨ a = 8 ∨ a = 16 ∨ a = 32 ∨ a = 64 ∨ a = 128 ∨ a = 256
instance (a : Int) : Decidable (isPow a) := by unfold isPow; infer_instance
theorem isPow_iff {a : Int} : isPow a ↔ 1 ≤ a ∧ a ≤ 256 ∧ pw a = a := by
  unfold isPow pw
  constructor
  · rintro (rfl | rfl | rfl | rfl | rfl | rfl | rfl | rfl | rfl) <;> decide
  · rintro ⟨h1, h2, h3⟩
    omega

/-- Does a class fit a request? -/
def fitsC (size align : Int) (c : Cl) : Bool := decide (size ≤ c.s) && decide (c.s % align = 0)

/-- The class of a request, and the error. -/
def clsOf (l : List Cl) (size align : Int) : Int × Int :=
  if ¬ isTable l then (0, 2) else if ¬ (1 ≤ size ∧ isPow align) then (0, 1) else if l.findIdx (fitsC size align) < l.length then ((l.findIdx (fitsC size align) : Nat), 0) else (0, 4)

/-- The slack of a size, and the error. -/
def slackOf (l : List Cl) (size : Int) : Int × Int := if (clsOf l size 1).2 = 0 then ((cAt l (clsOf l size 1).1.toNat).s - size, 0) else (0, (clsOf l size 1).2)

theorem findIdx_here {l : List Cl} {p : Cl → Bool} {k : Nat} (hk : k < l.length) (h : k ≤ l.findIdx p) (hp : p (cAt l k) = true) : l.findIdx p = k := by
  have e : cAt l k = l[k] := by simp [cAt, List.getD_eq_getElem?_getD, List.getElem?_eq_getElem hk]
  rw [e] at hp
  rcases Nat.lt_or_ge k (l.findIdx p) with h1 | h1
  · exact absurd hp (by simpa using List.not_of_lt_findIdx h1)
  · omega
theorem findIdx_next {l : List Cl} {p : Cl → Bool} {k : Nat} (hk : k < l.length) (h : k ≤ l.findIdx p) (hp : p (cAt l k) = false) : k + 1 ≤ l.findIdx p := by
  have e : cAt l k = l[k] := by simp [cAt, List.getD_eq_getElem?_getD, List.getElem?_eq_getElem hk]
  rw [e] at hp
  rcases Nat.lt_or_ge k (l.findIdx p) with h1 | h1
  · omega
  · have e2 : l.findIdx p = k := by omega
    have h3 := List.findIdx_getElem (p := p) (xs := l) (w := by rw [e2]; exact hk)
    simp only [e2] at h3
    rw [h3] at hp
    cases hp
theorem findIdx_end {l : List Cl} {p : Cl → Bool} {k : Nat} (hk : k = l.length) (h : k ≤ l.findIdx p) : ¬ l.findIdx p < l.length := by omega

/-- A slice of classes reads as the list. -/
def ReadsC (w : World) (A : Option Addr) (n : Nat) (l : List Cl) : Prop := l.length = n ∧ (∀ j, j < n → I64 (cAt l j).s ∧ I64 (cAt l j).p ∧ I64 (cAt l j).b) ∧
  (0 < n → ∃ ad, A = some ad ∧ ∀ j, j < n → w.cell? (ad.add (j * 3)) = some (.int .i64 (cAt l j).s) ∧ w.cell? ⟨(ad.add (j * 3)).block, (ad.add (j * 3)).off + 1, none⟩ = some (.int .i64 (cAt l j).p) ∧ w.cell? ⟨(ad.add (j * 3)).block, (ad.add (j * 3)).off + 2, none⟩ = some (.int .i64 (cAt l j).b))
theorem ReadsC.only {w w' : World} {A : Option Addr} {n : Nat} {l : List Cl} {L : List Nat} (h : ReadsC w A n l) (ho : Only L w w') (hn : ∀ ad, A = some ad → ad.block ∉ L) : ReadsC w' A n l := by
  obtain ⟨h1, h2, h3⟩ := h
  refine ⟨h1, h2, fun h0 => ?_⟩
  obtain ⟨ad, rfl, hc⟩ := h3 h0
  refine ⟨ad, rfl, fun j hj => ?_⟩
  obtain ⟨c1, c2, c3⟩ := hc j hj
  have hb1 := World.block_lt_of_cell? w _ c1
  have hb : ∀ j, (ad.add j).block = ad.block := fun j => by unfold Addr.add; split <;> rfl
  have hnn : (ad.add (j * 3)).block ∉ L := by rw [hb]; exact hn ad rfl
  exact ⟨(ho.cell hb1 hnn).trans c1, (ho.cell (p := ⟨(ad.add (j * 3)).block, (ad.add (j * 3)).off + 1, none⟩) hb1 hnn).trans c2, (ho.cell (p := ⟨(ad.add (j * 3)).block, (ad.add (j * 3)).off + 2, none⟩) hb1 hnn).trans c3⟩
theorem ReadsC.still {w w' : World} {A : Option Addr} {n : Nat} {l : List Cl} (h : ReadsC w A n l) (ho : Only [] w w') : ReadsC w' A n l := h.only ho (by simp)
theorem ReadsC.at_ {w : World} {A : Option Addr} {n : Nat} {l : List Cl} (h : ReadsC w A n l) {k : Nat} (hk : k < n) : ∃ ad, A = some ad ∧ w.cell? (ad.add (k * 3)) = some (.int .i64 (cAt l k).s) ∧ w.cell? ⟨(ad.add (k * 3)).block, (ad.add (k * 3)).off + 1, none⟩ = some (.int .i64 (cAt l k).p) ∧ w.cell? ⟨(ad.add (k * 3)).block, (ad.add (k * 3)).off + 2, none⟩ = some (.int .i64 (cAt l k).b) := by
  obtain ⟨ad, rfl, hc⟩ := h.2.2 (by omega)
  exact ⟨ad, rfl, hc k hk⟩
end Go.Proofs.Ytgicapdiiknbiaa

/- The walk of SpaceHolds. -/
import Derived.Test.YtmalmkccgjeboaaDoorVM
set_option linter.unusedVariables false
set_option linter.unusedSimpArgs false
namespace Go.Proofs.YtmalmkccgjeboaaDoor
open Go.RowKit

/-- The word at addr can be accessed and holds v. -/
def Keeps (m : SpM) (addr v : Int) : Prop := 0 ≤ addr ∧ addr % 8 = 0 ∧ addr / 8 < 32 * m.n ∧ m.st (addr / 256) ≠ 0 ∧ m.h (addr / 8) = v
/-- How many words a call may write. -/
def Ac.words (x : Ac) : Int := if x.k = 4 then 1 else if x.k = 7 then x.c else x.b
/-- The call may have turned the word at addr. -/
def Covers (m : SpM) (x : Ac) (addr : Int) : Prop := m.actE x = 0 ∧ (((x.k = 1 ∨ x.k = 2) ∧ x.a ≤ addr / 256 ∧ addr / 256 < x.a + x.b) ∨ ((x.k = 4 ∨ x.k = 6 ∨ x.k = 7) ∧ x.a ≤ addr ∧ addr < x.a + x.words * 8))

theorem Keeps.acc {m : SpM} {addr v : Int} (h : Keeps m addr v) : m.acc addr 1 = 0 := by
  obtain ⟨h1, h2, h3, h4, h5⟩ := h
  unfold SpM.acc
  rw [if_neg (by omega), if_neg (by omega), if_neg (by unfold lastP; omega), if_neg]
  rw [anyTo_true]
  rintro ⟨k, hk, hz⟩
  unfold lastP at hk
  have e : (((addr / 256).toNat : Int) + (k : Int)) = addr / 256 := by omega
  rw [e] at hz
  exact h4 (beq_iff_eq.1 hz)
theorem Keeps.puts {m : SpM} {addr v : Int} (h : Keeps m addr v) (j : Int) (f : Nat → Int) (k : Nat) (hj : addr / 8 < j ∨ j + k ≤ addr / 8) : Keeps (m.puts j f k) addr v := by
  induction k with
  | zero => exact h
  | succ k ih =>
    obtain ⟨h1, h2, h3, h4, h5⟩ := ih (by omega)
    refine ⟨h1, h2, h3, ?_, ?_⟩
    · show (if addr / 256 = (j + k) / 32 then (2 : Int) else _) ≠ 0
      split
      · decide
      · exact h4
    · show (if addr / 8 = j + k then _ else _) = v
      rw [if_neg (by omega)]
      exact h5
theorem Keeps.setR {m : SpM} {addr v : Int} (h : Keeps m addr v) {a b x : Int} (hn : ¬ (a ≤ addr / 256 ∧ addr / 256 < a + b)) : Keeps (m.setR a b x) addr v := by
  obtain ⟨h1, h2, h3, h4, h5⟩ := h
  refine ⟨h1, h2, h3, ?_, ?_⟩
  · show (if _ then x else m.st (addr / 256)) ≠ 0
    rw [if_neg hn]; exact h4
  · show (if _ then 0 else m.h (addr / 8)) = v
    rw [if_neg (by rw [show addr / 8 / 32 = addr / 256 by omega]; exact hn)]; exact h5
theorem Keeps.act {m : SpM} {addr v : Int} (h : Keeps m addr v) (x : Ac) (hc : ¬ Covers m x addr) : Keeps (m.act x) addr v := by
  have h0 := h
  obtain ⟨h1, h2, h3, h4, h5⟩ := h0
  obtain ⟨k, a, b, c⟩ := x
  unfold Covers Ac.words at hc
  unfold SpM.act
  dsimp only at *
  by_cases k0 : k = 0
  · rw [if_pos k0]
    unfold SpM.mapM
    split
    · rename_i he
      refine h.setR (fun hin => ?_)
      unfold SpM.mapE at he
      split at he
      · cases he
      · split at he
        · cases he
        · rename_i hr ha
          rw [anyTo_true] at ha
          simp only [Decidable.not_not] at hr
          obtain ⟨r1, r2, r3, r4⟩ := hr
          refine ha ⟨(addr / 256 - a).toNat, by omega, ?_⟩
          rw [show (a + ((addr / 256 - a).toNat : Int)) = addr / 256 by omega]
          exact bne_iff_ne.2 h4
    · exact h
  rw [if_neg k0]
  by_cases k1 : k = 1
  · rw [if_pos k1]
    unfold SpM.leaveM
    split
    · rename_i he
      refine h.setR (fun hin => hc ⟨?_, .inl ⟨.inl k1, hin.1, hin.2⟩⟩)
      unfold SpM.actE
      dsimp only
      rw [if_neg k0, if_pos k1]; exact he
    · exact h
  rw [if_neg k1]
  by_cases k2 : k = 2
  · rw [if_pos k2]
    unfold SpM.leaveM
    split
    · rename_i he
      refine h.setR (fun hin => hc ⟨?_, .inl ⟨.inr k2, hin.1, hin.2⟩⟩)
      unfold SpM.actE
      dsimp only
      rw [if_neg k0, if_neg k1, if_pos k2]; exact he
    · exact h
  rw [if_neg k2]
  by_cases k3 : k = 3
  · rw [if_pos k3]; exact h
  rw [if_neg k3]
  by_cases k4 : k = 4
  · rw [if_pos k4]
    unfold SpM.writeM
    split
    · rename_i he
      obtain ⟨q1, q2, q3, _⟩ := SpM.acc_ok (by omega) he
      have hn : ¬ (a ≤ addr ∧ addr < a + 1 * 8) := fun hin => hc ⟨by
        unfold SpM.actE
        dsimp only
        rw [if_neg k0, if_neg k1, if_neg k2, if_neg k3, if_pos k4]; exact he, .inr ⟨.inl k4, hin.1, by rw [if_pos k4]; exact hin.2⟩⟩
      have := h.puts (a / 8) (fun _ => b) 1 (by omega)
      unfold SpM.puts SpM.puts at this
      rwa [show a / 8 + ((0 : Nat) : Int) = a / 8 by omega] at this
    · exact h
  rw [if_neg k4]
  by_cases k5 : k = 5
  · rw [if_pos k5]; exact h
  rw [if_neg k5]
  by_cases k6 : k = 6
  · rw [if_pos k6]
    unfold SpM.fillM
    split
    · rename_i he
      obtain ⟨w1, w2, w3⟩ := SpM.cnt_ok he
      have hn : ¬ (a ≤ addr ∧ addr < a + b * 8) := fun hin => hc ⟨by
        unfold SpM.actE
        dsimp only
        rw [if_neg k0, if_neg k1, if_neg k2, if_neg k3, if_neg k4, if_neg k5, if_pos k6]; exact he, .inr ⟨.inr (.inl k6), hin.1, by rw [if_neg k4, if_neg (by omega)]; exact hin.2⟩⟩
      rcases (by omega : b = 0 ∨ 1 ≤ b) with hb | hb
      · rw [hb]; exact h
      · obtain ⟨q1, q2, q3, _⟩ := w3 hb
        exact h.puts _ _ _ (by omega)
    · exact h
  rw [if_neg k6]
  by_cases k7 : k = 7
  · rw [if_pos k7]
    unfold SpM.copyM
    split
    · rename_i he
      have he1 : m.cnt a c = 0 := by
        unfold SpM.copyE at he
        split at he
        · assumption
        · exact he
      obtain ⟨w1, w2, w3⟩ := SpM.cnt_ok he1
      have hn : ¬ (a ≤ addr ∧ addr < a + c * 8) := fun hin => hc ⟨by
        unfold SpM.actE
        dsimp only
        rw [if_neg k0, if_neg k1, if_neg k2, if_neg k3, if_neg k4, if_neg k5, if_neg k6, if_pos k7]; exact he, .inr ⟨.inr (.inr k7), hin.1, by rw [if_neg k4, if_pos k7]; exact hin.2⟩⟩
      rcases (by omega : c = 0 ∨ 1 ≤ c) with hb | hb
      · rw [hb]; exact h
      · obtain ⟨q1, q2, q3, _⟩ := w3 hb
        exact h.puts _ _ _ (by omega)
    · exact h
  rw [if_neg k7]
  exact h
end Go.Proofs.YtmalmkccgjeboaaDoor

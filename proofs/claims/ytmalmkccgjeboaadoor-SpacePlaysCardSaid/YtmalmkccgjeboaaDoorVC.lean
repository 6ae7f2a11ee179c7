/- Contracts of made, run, and of the library's Index and IndexFunc over pages. -/
import Derived.Test.YtmalmkccgjeboaaDoorVB
set_option linter.unusedVariables false
set_option linter.unusedSimpArgs false
namespace Go.Proofs.YtmalmkccgjeboaaDoor
open Go.RowKit

theorem made_any {w : World} {p : Nat} {l : List Nat} {m : SpM} (h : SpaceAt w p l m) : Still Tryd.prog 40 #[.pointer (some ⟨p, 0, none⟩)] w (.bool true) := by
  obtain ⟨hg, h3, h4, gp, cap, gm, G, a1, a2, a3, a4, a5, a6, b1, b2, _⟩ := h
  have z0 := b1.cell_ 0 rfl
  have hn := hg.n1
  have hn2 := hg.n2
  have d0 : decide (0 < (m.n : Int)) = true := decide_eq_true (by omega)
  have d1 : decide (0 < m.n) = true := decide_eq_true (by omega)
  clear b1 hg
  generalize m.n = n at *
  go_enter Tryd.func40, Tryd.ntmps40
  go_wp2_with fail
  go_ret
  exact ⟨rfl, rfl⟩

/-- Is a run of pages in the space? -/
def SpM.inR (m : SpM) (a b : Int) : Prop := 0 ≤ a ∧ 1 ≤ b ∧ a ≤ m.n ∧ b ≤ m.n - a
instance (m : SpM) (a b : Int) : Decidable (m.inR a b) := by unfold SpM.inR; infer_instance

/-- A slice of pages reads as the states f. -/
def ReadsP (w : World) (A : Option Addr) (n : Nat) (f : Nat → Int) : Prop := 0 < n → ∃ ad, A = some ad ∧ ∀ k, k < n → w.cell? (ad.add (k * 2)) = some (.bool (f k != 0)) ∧ w.cell? ⟨(ad.add (k * 2)).block, (ad.add (k * 2)).off + 1, none⟩ = some (.bool (f k == 2))
theorem ReadsP.still {w w' : World} {A : Option Addr} {n : Nat} {f : Nat → Int} (h : ReadsP w A n f) (ho : Only [] w w') : ReadsP w' A n f := by
  intro h0
  obtain ⟨ad, rfl, hc⟩ := h h0
  refine ⟨ad, rfl, fun k hk => ?_⟩
  obtain ⟨c1, c2⟩ := hc k hk
  exact ⟨(ho.cell (World.block_lt_of_cell? w _ c1) (by simp)).trans c1, (ho.cell (World.block_lt_of_cell? w _ c2) (by simp)).trans c2⟩

theorem Row.reads {w : World} {gp n : Nat} {st : Int → Int} (h : Row w gp (2 * n) (pcell st)) {a : Int} {b : Nat} (h0 : 0 ≤ a) (hb : a + b ≤ n) : ReadsP w (some ⟨gp, a.toNat * 2, none⟩) b (fun k => st (a + k)) := by
  intro _
  refine ⟨_, rfl, fun k hk => ?_⟩
  have e : (⟨gp, a.toNat * 2, none⟩ : Addr).add (k * 2) = ⟨gp, 2 * (a.toNat + k), none⟩ := by
    unfold Addr.add
    split
    · rename_i hz
      have : k = 0 := by omega
      subst this
      simp [Nat.mul_comm]
    · simp
      omega
  have ea : ((a.toNat + k : Nat) : Int) = a + k := by omega
  have c0 := h.cell (k := 2 * (a.toNat + k)) (by omega)
  have c1 := h.cell (k := 2 * (a.toNat + k) + 1) (by omega)
  unfold pcell at c0 c1
  rw [if_pos (by omega), show 2 * (a.toNat + k) / 2 = a.toNat + k by omega, ea] at c0
  rw [if_neg (by omega), show (2 * (a.toNat + k) + 1) / 2 = a.toNat + k by omega, ea] at c1
  rw [e]
  exact ⟨c0, c1⟩

set_option maxHeartbeats 1600000 in
theorem run_any {w : World} {p : Nat} {l : List Nat} {m : SpM} (h : SpaceAt w p l m) (a b : Int) (ha : I64 a) (hb : I64 b) :
    Calls Tryd.prog 44 #[.pointer (some ⟨p, 0, none⟩), .int .i64 a, .int .i64 b] w fun e w' => w = w' ∧
      (m.inR a b → ∃ A c, e = .returned (.tuple #[.slice A b.toNat c, .int .i64 0]) ∧ ReadsP w A b.toNat (fun k => m.st (a + k))) ∧ (¬ m.inR a b → e = .returned (.tuple #[.slice none 0 0, .int .i64 1])) := by
  have CM := Lib.hid (made_any h)
  obtain ⟨hg, h3, h4, gp, cap, gm, G, a1, a2, a3, a4, a5, a6, b1, b2, b3, _⟩ := h
  have z0 := b1.cell_ 0 rfl
  have hn := hg.n1
  have hn2 := hg.n2
  have HR := Lib.hid b3
  clear b1 hg b3
  by_cases hin : m.inR a b
  · have HIN := Lib.hid hin
    obtain ⟨i1, i2, i3, i4⟩ := hin
    have d0 : decide (a < 0) = false := decide_eq_false (by omega)
    have d1 : decide (b < 1) = false := decide_eq_false (by omega)
    have d2 : decide ((m.n : Int) < a) = false := decide_eq_false (by omega)
    have d3 : decide ((m.n : Int) - a < b) = false := decide_eq_false (by omega)
    generalize m.n = n at *
    go_enter Tryd.func44, Tryd.ntmps44
    go_wp2_with (first | (go_at_call 40; refine Still.use CM.out ?_))
    go_ret2
    have e1 : (a + b).toNat - a.toNat = b.toNat := by omega
    refine ⟨rfl, fun _ => ⟨some ⟨gp, a.toNat * 2, none⟩, cap - a.toNat, by rw [← e1]; rfl, ?_⟩, fun h => absurd HIN.out h⟩
    exact HR.out.reads (a := a) i1 (by omega)
  · have D : Hid (a < 0 ∨ (¬ a < 0 ∧ b < 1) ∨ (¬ a < 0 ∧ ¬ b < 1 ∧ (m.n : Int) < a) ∨ (¬ a < 0 ∧ ¬ b < 1 ∧ ¬ (m.n : Int) < a ∧ (m.n : Int) - a < b)) := by show _ ∨ _; unfold SpM.inR at hin; omega
    have HN := Lib.hid hin
    clear hin
    generalize m.n = n at *
    rcases D.out with e | ⟨e, f⟩ | ⟨e, f, g⟩ | ⟨e, f, g, h⟩
    · have d0 := decide_eq_true e
      clear D
      go_enter Tryd.func44, Tryd.ntmps44
      go_wp2_with (first | (go_at_call 40; refine Still.use CM.out ?_))
      go_ret2
      exact ⟨rfl, fun h => absurd h HN.out, fun _ => rfl⟩
    · have d0 := decide_eq_false e
      have d1 := decide_eq_true f
      clear D
      go_enter Tryd.func44, Tryd.ntmps44
      go_wp2_with (first | (go_at_call 40; refine Still.use CM.out ?_))
      go_ret2
      exact ⟨rfl, fun h => absurd h HN.out, fun _ => rfl⟩
    · have d0 := decide_eq_false e
      have d1 := decide_eq_false f
      have d2 := decide_eq_true g
      clear D
      go_enter Tryd.func44, Tryd.ntmps44
      go_wp2_with (first | (go_at_call 40; refine Still.use CM.out ?_))
      go_ret2
      exact ⟨rfl, fun h => absurd h HN.out, fun _ => rfl⟩
    · have d0 := decide_eq_false e
      have d1 := decide_eq_false f
      have d2 := decide_eq_false g
      have d3 := decide_eq_true h
      clear D
      go_enter Tryd.func44, Tryd.ntmps44
      go_wp2_with (first | (go_at_call 40; refine Still.use CM.out ?_))
      go_ret2
      exact ⟨rfl, fun h => absurd h HN.out, fun _ => rfl⟩

/-- Is there a page that is mapped among the first n? -/
def anyTo (q : Int → Bool) (f : Nat → Int) : Nat → Bool
  | 0 => false
  | k + 1 => anyTo q f k || q (f k)
theorem anyTo_true {q : Int → Bool} {f : Nat → Int} {n : Nat} : anyTo q f n = true ↔ ∃ k, k < n ∧ q (f k) = true := by
  induction n with
  | zero => simp [anyTo]
  | succ n ih =>
    unfold anyTo
    rw [Bool.or_eq_true, ih]
    constructor
    · rintro (⟨k, hk, h⟩ | h)
      · exact ⟨k, by omega, h⟩
      · exact ⟨n, by omega, h⟩
    · rintro ⟨k, hk, h⟩
      rcases Nat.lt_or_ge k n with h1 | h1
      · exact .inl ⟨k, h1, h⟩
      · have : k = n := by omega
        subst this
        exact .inr h

theorem pred_any (w : World) (hE : Env w) (x y : Bool) : Grew Tryd.prog 46 #[.agg #[.bool x, .bool y]] w (.bool (x || y)) := by
  obtain ⟨e1, e2, _, _, _, _⟩ := hE
  have e1 := (((Only.refl [] w).alloc (.cells #[.bool x, .bool y] 70)).cell (World.block_lt_of_cell? w _ e1) (by simp)).trans e1
  have e2 := (((Only.refl [] w).alloc (.cells #[.bool x, .bool y] 70)).cell (World.block_lt_of_cell? w _ e2) (by simp)).trans e2
  have b := Blk.new w 70 #[.bool x, .bool y]
  have b0 := b.cell_ 0 rfl
  have b1 := b.cell_ 1 rfl
  cases x <;> cases y
  all_goals
    go_enter Tryd.func46, Tryd.ntmps46
    go_wp2
    go_ret
    exact ⟨rfl, (Only.refl [] w).alloc _⟩

set_option maxHeartbeats 1600000 in
theorem IndexFunc_any (w : World) (hE : Env w) (A : Option Addr) (n c : Nat) (f : Nat → Int) (hr : ReadsP w A n f) (hn : n ≤ 9223372036854775807) (hf : ∀ k, f k = 0 ∨ f k = 1 ∨ f k = 2) :
    Calls Tryd.prog 68 #[.slice A n c, .func (.func 46) #[] #[]] w fun e w' => Only [] w w' ∧ ∃ i : Int, e = .returned (.int .i64 i) ∧ (decide (0 ≤ i) = anyTo (fun v => v != 0) f n) := by
  have HR := Lib.hid hr
  have HE := Lib.hid hE
  have HF := Lib.hid hf
  clear hr hE hf
  go_enter Tryd.func68, Tryd.ntmps68
  go_wp2_with fail
  go_loopw [8] (fun t wr => ∃ k : Nat, k ≤ n ∧ t = .int .i64 k ∧ Only [] w wr ∧ Hid (anyTo (fun v => v != 0) f k = false)) (fun t _ => n - (intOf t).toNat)
  case atStart => exact ⟨0, Nat.zero_le _, rfl, Only.refl _ _, rfl⟩
  case round =>
    obtain ⟨k, hk, rfl, ho, HK⟩ := hrel
    by_cases hlt : k < n
    · obtain ⟨ad, rfl, hc⟩ := HR.out.still ho (by omega)
      obtain ⟨c1, c2⟩ := hc k hlt
      have hxy : (f k == 2) = true → (f k != 0) = true := by have := HF.out k; intro h; rw [beq_iff_eq] at h; rw [h]; rfl
      have HA : Hid (anyTo (fun v => v != 0) f (k + 1) = (anyTo (fun v => v != 0) f k || (f k != 0))) := rfl
      have HT := Lib.hid (fun (h : (f k != 0) = true) => (anyTo_true (q := fun v => v != 0) (f := f) (n := n)).2 ⟨k, hlt, h⟩)
      clear hc
      generalize (f k != 0) = x at *
      generalize (f k == 2) = y at *
      have CH := Lib.hid (pred_any wr (HE.out.only ho (by simp)) x y)
      cases x
      · have hy : y = false := by cases y; rfl; exact absurd (hxy rfl) (by simp)
        subst hy
        have HN2 := Lib.hid (HA.out.trans (by rw [HK.out]))
        clear HA HT hxy
        go_wp2_with (first | (go_at_call 46; refine Grew.use CH.out (fun w2 ho2 => ?_)))
        go_roundw
        case rel => exact ⟨k + 1, by omega, by go_num, ho.trans ho2, HN2⟩
        case measure => simp [intOf]; omega
      · have HN2 := Lib.hid (HT.out rfl)
        clear HA HT hxy
        go_wp2_with (first | (go_at_call 46; refine Grew.use CH.out (fun w2 ho2 => ?_)))
        go_ret
        exact ⟨ho.trans ho2, k, rfl, by rw [HN2.out]; simp⟩
    · have e : k = n := by omega
      subst e
      go_wp2_with fail
      go_ret
      exact ⟨ho, -1, rfl, by rw [HK.out]; rfl⟩
end Go.Proofs.YtmalmkccgjeboaaDoor

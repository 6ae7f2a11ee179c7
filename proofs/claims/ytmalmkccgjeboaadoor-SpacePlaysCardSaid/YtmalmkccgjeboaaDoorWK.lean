/- The reference's New and Clone. -/
import Derived.Test.YtmalmkccgjeboaaDoorWJ
import Derived.Test.YtmalmkccgjeboaaDoorVQ
import Derived.Deep.AppendLies
import Derived.Deep.RegionHeld3
set_option linter.unusedVariables false
set_option linter.unusedSimpArgs false
namespace Go.Proofs.YtmalmkccgjeboaaDoor
open Go.RowKit
open Go.ChangeMaps Go.Maps

theorem ref_made {w1 : World} {p q1 q2 k : Nat} (h1 : 1 ≤ k) (h2 : k ≤ 1024) (e1 : p ≠ q1) (e2 : p ≠ q2) (e3 : q1 ≠ q2) (b : Blk w1 p 82 #[.slice (some ⟨q1, 0, none⟩) k k, .slice (some ⟨q2, 0, none⟩) (32 * k) (32 * k), .int .i64 0])
    (b1 : Blk w1 q1 3 (madeCells #[.int .i64 0] k)) (b2 : Blk w1 q2 3 (madeCells #[.int .i64 0] (32 * k))) : RefAt w1 p q1 q2 k (32 * k) (SpM.fresh k) :=
  ⟨h1, h2, Nat.le_refl _, Nat.le_refl _, e1, e2, e3, b, ⟨_, _, b1, by rw [size_madeCells]; exact Nat.le_refl _, fun j hj => made_at hj⟩, ⟨_, _, b2, by rw [size_madeCells]; exact Nat.le_refl _, fun j hj => made_at hj⟩⟩

set_option maxHeartbeats 4000000 in
theorem xNew (w : World) (n : Int) :
    Calls Tryd.prog 49 #[.int .i64 n] w fun e w' => Only [] w w' ∧
      (1 ≤ n ∧ n ≤ 1024 → ∃ p q1 q2 c1 c2, e = .returned (.tuple #[.pointer (some ⟨p, 0, none⟩), .int .i64 0]) ∧ RefAt w' p q1 q2 c1 c2 (SpM.fresh n.toNat) ∧ w.heap.size ≤ p ∧ w.heap.size ≤ q1 ∧ w.heap.size ≤ q2) ∧
      (¬ (1 ≤ n ∧ n ≤ 1024) → e = .returned (.tuple #[.pointer none, .int .i64 1])) := by
  by_cases hin : 1 ≤ n ∧ n ≤ 1024
  · obtain ⟨k, rfl⟩ : ∃ k : Nat, n = k := ⟨n.toNat, by omega⟩
    have d1 : decide ((k : Int) < 1) = false := decide_eq_false (by omega)
    have d2 : decide (1024 < (k : Int)) = false := decide_eq_false (by omega)
    have hmk : ∀ W : World, (Instr.makeSlice 40 (.int .i64 (k : Int)) (.int .i64 (k : Int))).run Tryd.prog W = .ok (.slice (some ⟨W.heap.size, 0, none⟩) k k) (W.alloc (.cells (madeCells #[.int .i64 0] k) 3)) := fun W => Go.run_make_row' 40 3 (.int .i64 0) 8 Tryd.underlying40 info_int rfl .i64 .i64 k (by omega) (by omega) W
    have hmk2 : ∀ W : World, (Instr.makeSlice 40 (.int .i64 ((k : Int) * 32)) (.int .i64 ((k : Int) * 32))).run Tryd.prog W = .ok (.slice (some ⟨W.heap.size, 0, none⟩) (32 * k) (32 * k)) (W.alloc (.cells (madeCells #[.int .i64 0] (32 * k)) 3)) := fun W => by
      have := Go.run_make_row' (P := Tryd.prog) 40 3 (.int .i64 0) 8 Tryd.underlying40 info_int rfl .i64 .i64 (32 * k) (by omega) (by omega) W
      rwa [show ((32 * k : Nat) : Int) = (k : Int) * 32 by omega] at this
    have HIN := Lib.hid hin
    have k1 : (k : Int) ≤ 1024 := hin.2
    have k2 : 1 ≤ (k : Int) := hin.1
    clear hin
    go_enter Tryd.func49, Tryd.ntmps49
    go_wp2_with fail
    go_region
    · go_wp2_with fail
      go_ret2
      refine ⟨((((Only.refl [] w).alloc _).alloc _).alloc _).drew, fun _ => ⟨_, _, _, _, _, rfl, by rw [Int.toNat_natCast]; exact ref_made (by omega) (by omega) (by omega) (by omega) (by omega) (by simpa using (Blk.new ((w.alloc (Obj.cells (madeCells #[Value.int IntKind.i64 0] k) 3)).alloc (Obj.cells (madeCells #[Value.int IntKind.i64 0] (32 * k)) 3)) 82 #[.slice (some ⟨w.heap.size, 0, none⟩) k k, .slice (some ⟨w.heap.size + 1, 0, none⟩) (32 * k) (32 * k), .int .i64 0]).drew) ((((Blk.new w 3 (madeCells #[.int .i64 0] k)).alloc _).alloc _).drew) (((Blk.new2' w _ 3 (madeCells #[.int .i64 0] (32 * k))).alloc _).drew), by omega, by omega, by omega⟩, fun h => absurd HIN.out h⟩
    · go_wp2_with fail
      go_ret2
      refine ⟨((((Only.refl [] w).alloc _).alloc _).alloc _).drew, fun _ => ⟨_, _, _, _, _, rfl, by rw [Int.toNat_natCast]; exact ref_made (by omega) (by omega) (by omega) (by omega) (by omega) (by simpa using (Blk.new ((w.alloc (Obj.cells (madeCells #[Value.int IntKind.i64 0] (32 * k)) 3)).alloc (Obj.cells (madeCells #[Value.int IntKind.i64 0] k) 3)) 82 #[.slice (some ⟨w.heap.size + 1, 0, none⟩) k k, .slice (some ⟨w.heap.size, 0, none⟩) (32 * k) (32 * k), .int .i64 0]).drew) (((Blk.new2' w _ 3 (madeCells #[.int .i64 0] k)).alloc _).drew) ((((Blk.new w 3 (madeCells #[.int .i64 0] (32 * k))).alloc _).alloc _).drew), by omega, by omega, by omega⟩, fun h => absurd HIN.out h⟩
  · have HIN := Lib.hid hin
    by_cases h1 : n < 1
    · have d1 := decide_eq_true h1
      clear hin
      go_enter Tryd.func49, Tryd.ntmps49
      go_wp2_with fail
      go_ret2
      exact ⟨Only.refl _ _, fun h => absurd h (by have := HIN.out; omega), fun _ => rfl⟩
    · have d1 := decide_eq_false h1
      have d2 : decide (1024 < n) = true := decide_eq_true (by omega)
      clear hin
      go_enter Tryd.func49, Tryd.ntmps49
      go_wp2_with fail
      go_ret2
      exact ⟨Only.refl _ _, fun h => absurd h (by have := HIN.out; omega), fun _ => rfl⟩

/-- What a copy of words leaves. -/
theorem own_row {w : World} {base n g c : Nat} {f : Nat → Int} {e : TypeId} (h : w.ownsRow base e 1 (.slice (some ⟨g, 0, none⟩) n c) n (wl f n)) : n ≤ c ∧ base ≤ g ∧ Row w g n (fun k => .int .i64 (f k)) := by
  rcases h.2 with ⟨h0, _⟩ | ⟨g', cap', cur, he, hb, hh, h1, h2, h3, ht⟩
  · cases h0
  · injection he with e1 e2 e3
    injection e1 with e1
    injection e1 with e1
    subst e1
    refine ⟨by omega, hb, ⟨_, cur, hh, by omega, fun k hk => ?_⟩⟩
    have := congrArg (fun l => l[k]?) ht
    simp only [List.getElem?_take, Array.getElem?_toList, wl, List.getElem?_map, List.getElem?_range hk] at this
    simpa [hk] using this

theorem only_own {l : List Nat} {a w w' : World} {g n c : Nat} (h : Only l a w) (hg : w.grownBy w' (Value.ownBlock (.slice (some ⟨g, 0, none⟩) n c))) (hl : g ∈ l ∨ a.heap.size ≤ g) : Only l a w' :=
  h.grown hg (fun k hk => by
    have : k = g := by injection hk with hk; exact hk.symm
    rw [this]
    exact hl)

theorem own_lies {W : World} {base b : Nat} {t : TypeId} (h : Blk W b t #[]) (hb : base ≤ b) : W.ownsRow base t 1 (.slice (some ⟨b, 0, none⟩) 0 0) 0 [] :=
  ⟨rfl, .inr ⟨b, 0, #[], rfl, hb, h, Nat.le_refl _, Nat.zero_le _, rfl, rfl⟩⟩

theorem lies_or {r : Option Nat} {g H s : Nat} (h : r = some g ∨ g = H) (hr : r = some s) : g = s ∨ g = H := by
  rcases h with e | e
  · rw [hr] at e
    injection e with e
    exact .inl e.symm
  · exact .inr e

/-- What Clone leaves. -/
theorem clone_ref {w w1 W w2 : World} {p q1 q2 c1 c2 g1 g2 k1 k2 bx : Nat} {m : SpM} (h : RefAt w p q1 q2 c1 c2 m) (o1 : w1.ownsRow w.heap.size 3 1 (.slice (some ⟨g1, 0, none⟩) m.n k1) m.n (wl (fun k => m.st k) m.n)) (hz1 : g1 < w1.heap.size)
    (hW : Only [] w1 W) (hW2 : Only [bx] W w2) (hbx : g1 ≠ bx) (o2 : w2.ownsRow w.heap.size 3 1 (.slice (some ⟨g2, 0, none⟩) (32 * m.n) k2) (32 * m.n) (wl (fun k => m.h k) (32 * m.n))) (hz2 : g2 < w2.heap.size) (hg : g1 ≠ g2) :
    RefAt (w2.alloc (.cells #[.slice (some ⟨g1, 0, none⟩) m.n k1, .slice (some ⟨g2, 0, none⟩) (32 * m.n) k2, .int .i64 m.pk] 82)) w2.heap.size g1 g2 k1 k2 m := by
  obtain ⟨a1, a2, a3⟩ := own_row o1
  obtain ⟨b1, b2, b3⟩ := own_row o2
  have hz := hW.size
  have hz' := hW2.size
  exact ⟨h.n1, h.n2, a1, b1, by omega, by omega, hg, Blk.new _ _ _, ((a3.only hW (by simp)).only hW2 (by simpa using hbx)).alloc _, b3.alloc _⟩

theorem only_own2 {a w w' : World} {r : Option Nat} {g : Nat} (h : Only [] a w) (hg : w.grownBy w' r) (hr : r = some g) (hl : a.heap.size ≤ g) : Only [] a w' :=
  h.grown hg (fun k hk => by
    rw [hr] at hk
    have : g = k := by injection hk
    omega)
theorem only_own3 {w w' : World} {r : Option Nat} {g : Nat} (hg : w.grownBy w' r) (hr : r = some g) : Only [g] w w' :=
  (Only.refl [g] w).grown hg (fun k hk => by
    rw [hr] at hk
    have : g = k := by injection hk
    exact .inl (by simp [this]))
theorem Blk.grown12 {w w' : World} {b g : Nat} {r : Option Nat} {t : TypeId} {cs : Array Value} (h : Blk w b t cs) (hg : w.grownBy w' r) (hr : r = some g) (hb : b ≠ g) : Blk w' b t cs :=
  h.only (only_own3 hg hr) (by simpa using hb)

set_option maxHeartbeats 4000000 in
theorem xClone {w : World} {p q1 q2 c1 c2 : Nat} {m : SpM} (h : RefAt w p q1 q2 c1 c2 m) : Calls Tryd.prog 32 #[.pointer (some ⟨p, 0, none⟩)] w fun e w' =>
    Only [] w w' ∧ ∃ p' q1' q2' c1' c2', e = .returned (.pointer (some ⟨p', 0, none⟩)) ∧ RefAt w' p' q1' q2' c1' c2' m ∧ w.heap.size ≤ p' ∧ w.heap.size ≤ q1' ∧ w.heap.size ≤ q2' := by
  obtain ⟨i0, hi, hz0, hz1, hz2⟩ := info_parts info_int
  have HR := Lib.hid h
  have n1 := h.n1
  have n2 := h.n2
  have bd := h.blk.drew
  have CM := Lib.hid (xmade h)
  have hone : ∀ (f : Nat → Int) (n : Nat), ∀ u ∈ wl f n, u.oneCell' = true := by
    intro f n u hu
    obtain ⟨k, _, rfl⟩ := List.mem_map.1 hu
    rfl
  have hlen : ∀ (f : Nat → Int) (n : Nat), (wl f n).length = n * 1 := by simp [wl]
  have HC1 := Lib.hid (fun W (ho : Only [] w W) j (u : Value) (hu : (wl (fun k => m.st k) m.n)[j]? = some u) => (by
    have hj : j < m.n := by
      rcases Nat.lt_or_ge j m.n with h1 | h1
      · exact h1
      · rw [List.getElem?_eq_none (by simpa [wl] using h1)] at hu; cases hu
    have hc := (h.still ho).sts.cell hj
    rw [wl, List.getElem?_map, List.getElem?_range hj] at hu
    rw [add0, hc]
    exact hu : W.cell? ((⟨q1, 0, none⟩ : Addr).add j) = some u))
  have HC2 := Lib.hid (fun W (ho : Only [] w W) j (u : Value) (hu : (wl (fun k => m.h k) (32 * m.n))[j]? = some u) => (by
    have hj : j < 32 * m.n := by
      rcases Nat.lt_or_ge j (32 * m.n) with h1 | h1
      · exact h1
      · rw [List.getElem?_eq_none (by simpa [wl] using h1)] at hu; cases hu
    have hc := (h.still ho).hds.cell hj
    rw [wl, List.getElem?_map, List.getElem?_range hj] at hu
    rw [add0, hc]
    exact hu : W.cell? ((⟨q2, 0, none⟩ : Addr).add j) = some u))
  clear h
  go_enter Tryd.func32, Tryd.ntmps32
  go_wp2_with ((go_at_call 50; with_reducible refine Still.use CM.out ?_))
  have E0 := Lib.hid (Blk.new w 3 #[]).drew
  have E1 := Lib.hid ((Blk.new w 3 #[]).alloc (.cells #[] 3)).drew
  have E2 := Lib.hid (Blk.new2' w (.cells #[] 3) 3 #[]).drew
  have O1 := Lib.hid ((Only.refl [] w).alloc (.cells #[] 3)).drew
  have O2 := Lib.hid (((Only.refl [] w).alloc (.cells #[] 3)).alloc (.cells #[] 3)).drew
  have b1 := HR.out.blk.only O1.out (by simp)
  have b1' := HR.out.blk.only O2.out (by simp)
  have hp := HR.out.ltp
  go_region_held3 (fun w' => w'.cell? ⟨p, 0, none⟩ = some (.slice (some ⟨q1, 0, none⟩) m.n c1) ∧ w'.cell? ⟨p, 1, none⟩ = some (.slice (some ⟨q2, 0, none⟩) (32 * m.n) c2) ∧ w'.cell? ⟨p, 2, none⟩ = some (.int .i64 m.pk))
    (refine ⟨Blk.cell_ (t := 82) (cs := #[.slice (some ⟨q1, 0, none⟩) m.n c1, .slice (some ⟨q2, 0, none⟩) (32 * m.n) c2, .int .i64 m.pk]) ?_ 0 rfl, Blk.cell_ (t := 82) (cs := #[.slice (some ⟨q1, 0, none⟩) m.n c1, .slice (some ⟨q2, 0, none⟩) (32 * m.n) c2, .int .i64 m.pk]) ?_ 1 rfl, Blk.cell_ (t := 82) (cs := #[.slice (some ⟨q1, 0, none⟩) m.n c1, .slice (some ⟨q2, 0, none⟩) (32 * m.n) c2, .int .i64 m.pk]) ?_ 2 rfl⟩ <;> first | assumption | (refine Blk.alloc ?_ _; assumption))
    (first
      | (refine step_append_lies _ rfl (.tmp 12) (.tmp 16) 40 rfl w.heap.size 3 i0 (.int .i64 0) 1 8 Tryd.underlying40 hi hz0 hz1 hz2 rfl (by decide) _ 0 [] rfl (by first | exact own_lies (Blk.new w1 3 #[]) ho1.size | exact own_lies (E1.out.grown12 (g := w.heap.size + 1) hg1 rfl (by omega)) (by omega) | exact own_lies (E2.out.grown12 (g := w.heap.size) hg1 rfl (by omega)) (by omega)) ⟨q2, 0, none⟩ (32 * m.n) c2 (wl (fun k => m.h k) (32 * m.n)) rfl (hlen _ _) (by first | exact HC2.out _ (ho1.alloc _) | exact HC2.out _ ho1) (hone _ _) (by omega) (by unfold maxLen; omega) (by omega) (by have := ho1.size; first | omega | (simp; omega)) _ rfl ?_; intro g2 k2 w2 hown2 hg2 hgl2 hgt2; have b3 : Blk w2 p 82 #[.slice (some ⟨q1, 0, none⟩) m.n c1, .slice (some ⟨q2, 0, none⟩) (32 * m.n) c2, .int .i64 m.pk] := (by first | exact (b2.alloc _).grown12 (g := w1.heap.size) hg2 rfl (by have := ho1.size; omega) | exact b2.grown12 (g := w.heap.size) hg2 rfl (by omega) | exact b2.grown12 (g := w.heap.size + 1) hg2 rfl (by omega)))
      | (refine step_append_lies _ rfl (.tmp 6) (.tmp 10) 40 rfl w.heap.size 3 i0 (.int .i64 0) 1 8 Tryd.underlying40 hi hz0 hz1 hz2 rfl (by decide) _ 0 [] rfl (by first | exact own_lies E0.out (by omega) | exact own_lies E1.out (by omega) | exact own_lies E2.out (by omega)) ⟨q1, 0, none⟩ m.n c1 (wl (fun k => m.st k) m.n) rfl (hlen _ _) (by first | exact HC1.out _ O1.out | exact HC1.out _ O2.out) (hone _ _) (by omega) (by unfold maxLen; omega) (by omega) (by simp <;> omega) _ rfl ?_; intro g1 k1 w1 hown1 hg1 hgl1 hgt1; have ho1 : Only [] w w1 := (by first | exact only_own2 (g := w.heap.size) O1.out hg1 rfl (by omega) | exact only_own2 (g := w.heap.size) O2.out hg1 rfl (by omega) | exact only_own2 (g := w.heap.size + 1) O2.out hg1 rfl (by omega)); have b2 := HR.out.blk.only ho1 (by simp)))
  · have l1 := lies_or hgl1 (s := w.heap.size) rfl
    have l2 := lies_or hgl2 (s := w1.heap.size) rfl
    have hz := ho1.size
    simp at l1 l2
    simp only [Nat.zero_add, List.nil_append] at hown1 hown2
    have hW2 : Only [w1.heap.size] _ w2 := only_own3 hg2 rfl
    have ho2 : Only [] w w2 := only_own2 (ho1.alloc _) hg2 (g := w1.heap.size) rfl (by omega)
    go_wp2
    go_ret
    exact ⟨ho2.alloc _, w2.heap.size, g1, g2, k1, k2, rfl, clone_ref HR.out hown1 hgt1 ((Only.refl [] w1).alloc _) hW2 (by omega) hown2 hgt2 (by omega), ho2.size, by omega, by omega⟩
  · have l1 := lies_or hgl1 (s := w.heap.size) rfl
    have l2 := lies_or hgl2 (s := w.heap.size + 1) rfl
    have hz := ho1.size
    simp at l1 l2
    simp only [Nat.zero_add, List.nil_append] at hown1 hown2
    have hW2 : Only [w.heap.size + 1] _ w2 := only_own3 hg2 rfl
    have ho2 : Only [] w w2 := only_own2 ho1 hg2 (g := w.heap.size + 1) rfl (by omega)
    go_wp2
    go_ret
    exact ⟨ho2.alloc _, w2.heap.size, g1, g2, k1, k2, rfl, clone_ref HR.out hown1 hgt1 (Only.refl [] w1) hW2 (by omega) hown2 hgt2 (by omega), ho2.size, by omega, by omega⟩
  · have l1 := lies_or hgl1 (s := w.heap.size + 1) rfl
    have l2 := lies_or hgl2 (s := w.heap.size) rfl
    have hz := ho1.size
    simp at l1 l2
    simp only [Nat.zero_add, List.nil_append] at hown1 hown2
    have hW2 : Only [w.heap.size] _ w2 := only_own3 hg2 rfl
    have ho2 : Only [] w w2 := only_own2 ho1 hg2 (g := w.heap.size) rfl (by omega)
    go_wp2
    go_ret
    exact ⟨ho2.alloc _, w2.heap.size, g1, g2, k1, k2, rfl, clone_ref HR.out hown1 hgt1 (Only.refl [] w1) hW2 (by omega) hown2 hgt2 (by omega), ho2.size, by omega, by omega⟩
end Go.Proofs.YtmalmkccgjeboaaDoor

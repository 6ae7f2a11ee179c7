/- Contract of set. -/
import Derived.Test.YtmalmkccgjeboaaDoorVD
set_option linter.unusedVariables false
set_option linter.unusedSimpArgs false
namespace Go.Proofs.YtmalmkccgjeboaaDoor
open Go.RowKit
open Go.ChangeMaps Go.Maps

theorem only_setBlock {w w' : World} {l : List Nat} {b : Nat} {o : Obj} {es : Array MapEntry} {clock : Nat} (ho : Only l w w') (hb : w'.heap[b]? = some (.map es clock)) (hl : b ∈ l) : Only l w (setBlock w' b o) :=
  ⟨ho.os, ho.tape, ho.output, by have := ho.size; simpa [setBlock] using this, fun i hi hn => (heap_setBlock_other hb _ (fun e => hn (by rw [e]; exact hl))).trans (ho.block i hi hn)⟩

theorem SpM.setR_zero (m : SpM) (a v : Int) : m.setR a 0 v = m := by
  unfold SpM.setR
  have h1 : (fun i => if a ≤ i ∧ i < a + 0 then v else m.st i) = m.st := by funext i; rw [if_neg (by omega)]
  have h2 : (fun j => if a ≤ j / 32 ∧ j / 32 < a + 0 then 0 else m.h j) = m.h := by funext j; rw [if_neg (by omega)]
  rw [h1, h2]
theorem SpM.setR_succ (m : SpM) (a v : Int) (k : Nat) : (m.setR a k v).setR (a + k) 1 v = m.setR a ((k : Int) + 1) v := by
  unfold SpM.setR
  dsimp only
  congr 1
  · funext i
    by_cases h : i = a + k
    · rw [if_pos (by omega), if_pos (by omega)]
    · rw [if_neg (by omega)]
      by_cases h2 : a ≤ i ∧ i < a + k
      · rw [if_pos h2, if_pos (by omega)]
      · rw [if_neg h2, if_neg (by omega)]
  · funext j
    by_cases h : j / 32 = a + k
    · rw [if_pos (by omega), if_pos (by omega)]
    · rw [if_neg (by omega)]
      by_cases h2 : a ≤ j / 32 ∧ j / 32 < a + k
      · rw [if_pos h2, if_pos (by omega)]
      · rw [if_neg h2, if_neg (by omega)]


/-- One page gets a state without memory. -/
theorem Parts.set1 {w w1 w2 : World} {p : Nat} {l : List Nat} {m : SpM} {gp cap gm : Nat} {G : Int → Option Nat} (h : Parts w p l m gp cap gm G) (hg : m.good) {i : Nat} (hi : i < m.n) {v : Int} (hv : v = 0 ∨ v = 1)
    (hw1 : Only [gp] w w1) (hr : Row w1 gp (2 * m.n) (pcell (m.setR i 1 v).st)) (hw2 : Only [gm] w1 w2)
    (hD : Dict w2 gm (fun j => if j = (i : Int) then none else G j) (if (G i).isSome then m.dirty - 1 else m.dirty)) :
    (m.setR i 1 v).good ∧ Parts w2 p l (m.setR i 1 v) gp cap gm (fun j => if j = (i : Int) then none else G j) := by
  obtain ⟨a1, a2, a3, a4, a5, a6, b1, b2, b3, b4, b5, b6, b7⟩ := h
  have hst : ∀ j : Int, (m.setR i 1 v).st j = if j = (i : Int) then v else m.st j := fun j => by
    show (if (i : Int) ≤ j ∧ j < (i : Int) + 1 then v else m.st j) = _
    by_cases e : j = i
    · rw [if_pos e, if_pos (by omega)]
    · rw [if_neg e, if_neg (by omega)]
  have hh : ∀ j : Int, (m.setR i 1 v).h j = if j / 32 = (i : Int) then 0 else m.h j := fun j => by
    show (if (i : Int) ≤ j / 32 ∧ j / 32 < (i : Int) + 1 then 0 else m.h j) = _
    by_cases e : j / 32 = i
    · rw [if_pos e, if_pos (by omega)]
    · rw [if_neg e, if_neg (by omega)]
  have hsome : (G i).isSome = true ↔ m.st i = 2 := by
    constructor
    · intro e
      obtain ⟨g, hg'⟩ := Option.isSome_iff_exists.1 e
      exact (b5 _ _ hg').1.2.2
    · intro e
      obtain ⟨g, hg'⟩ := b6 i (by omega) (by omega) e
      rw [hg']
      rfl
  have hd : (m.setR i 1 v).dirty = if (G i).isSome then m.dirty - 1 else m.dirty := by
    have h1 := cntTo_set m.st 2 v i m.n hi
    have h2 : (m.setR i 1 v).dirty = cntTo (fun j => if j = (i : Int) then v else m.st j) 2 m.n := by
      unfold SpM.dirty
      rw [show (m.setR i 1 v).st = fun j => if j = (i : Int) then v else m.st j from funext hst]
      rfl
    rw [h2]
    have h3 : m.dirty = cntTo m.st 2 m.n := rfl
    rw [h3]
    rw [if_neg (show ¬ v = 2 by omega)] at h1
    by_cases e : m.st i = 2
    · rw [if_pos e] at h1
      rw [if_pos (hsome.2 e)]
      omega
    · rw [if_neg e] at h1
      rw [if_neg (fun e' => e (hsome.1 e'))]
      omega
  have hle : (m.setR i 1 v).dirty ≤ m.dirty := by rw [hd]; split <;> omega
  refine ⟨⟨hg.n1, hg.n2, fun j => ?_, fun j hj => ?_, fun j => ?_, ?_, hg.p1⟩, ⟨a1, a2, a3, a4, a5, a6, ?_, b2, hr.only hw2 (by simp; exact a6), by rw [hd]; exact hD, ?_, ?_, ?_⟩⟩
  · rw [hst]
    split
    · omega
    · exact hg.s1 j
  · rw [hh]
    rw [hst] at hj
    split
    · rfl
    · rename_i e
      rw [if_neg e] at hj
      exact hg.h0 j hj
  · rw [hh]
    split
    · unfold I64; omega
    · exact hg.h1 j
  · have : ((m.setR i 1 v).pk) = m.pk := rfl
    have := hg.p0
    omega
  · exact (b1.only hw1 (by simp; exact a4)).only hw2 (by simp; exact a5)
  · intro j g hj
    by_cases e : j = (i : Int)
    · rw [if_pos e] at hj; cases hj
    · rw [if_neg e] at hj
      obtain ⟨c1, c2, c3, c4, c5, c6⟩ := b5 j g hj
      refine ⟨⟨c1.1, c1.2.1, by rw [hst, if_neg e]; exact c1.2.2⟩, c2, c3, c4, c5, ((c6.only hw1 (by simp; exact c4)).only hw2 (by simp; exact c5)).congr fun k hk => ?_⟩
      rw [hh, if_neg (by omega)]
  · intro j h1 h2 h3
    rw [hst] at h3
    by_cases e : j = (i : Int)
    · rw [if_pos e] at h3; omega
    · rw [if_neg e] at h3
      obtain ⟨g, hg'⟩ := b6 j h1 h2 h3
      exact ⟨g, by rw [if_neg e]; exact hg'⟩
  · intro j j' g h1 h2
    by_cases e : j = (i : Int)
    · rw [if_pos e] at h1; cases h1
    · by_cases e' : j' = (i : Int)
      · rw [if_pos e'] at h2; cases h2
      · rw [if_neg e] at h1
        rw [if_neg e'] at h2
        exact b7 j j' g h1 h2

/-- The two halves of a page are written. -/
theorem Row.page {w : World} {gp n : Nat} {st st' : Int → Int} (h : Row w gp (2 * n) (pcell st)) (i : Nat) (x y : Bool) (hx : (st' i != 0) = x) (hy : (st' i == 2) = y) (hst : ∀ j : Int, j ≠ (i : Int) → st' j = st j) :
    Row ((w.setCell ⟨gp, i * 2, none⟩ (.bool x)).setCell ⟨gp, i * 2 + 1, none⟩ (.bool y)) gp (2 * n) (pcell st') := by
  refine ((h.set_ (i * 2) (.bool x)).set_ (i * 2 + 1) (.bool y)).congr fun k hk => ?_
  by_cases e1 : k = i * 2 + 1
  · rw [if_pos e1, e1]
    unfold pcell
    rw [if_neg (by omega), show (i * 2 + 1) / 2 = i by omega, hy]
  · rw [if_neg e1]
    by_cases e2 : k = i * 2
    · rw [if_pos e2, e2]
      unfold pcell
      rw [if_pos (by omega), show (i * 2) / 2 = i by omega, hx]
    · rw [if_neg e2]
      unfold pcell
      rw [hst _ (by omega)]

theorem wpList_del {w : World} {ops : Array Oper} {rest : List Oper} {o : Oper} {a : Act} {Q : Exit → Act → World → Prop} (hg : o.guard = none) (m x : Operand)
    (hop : o.op = Op.call { callee := Callee.builtin Builtin.delete, args := #[m, x], argTypes := #[56, 3] }) (b c : Nat) (G : Int → Option Nat) (hm : a.eval m = .map (some b)) (hD : Dict w b G c)
    (k : Int) (hk : I64 k) (hx : a.eval x = .int .i64 k)
    (hK : ∀ w', Only [b] w w' → Dict w' b (fun j => if j = k then none else G j) (if (G k).isSome then c - 1 else c) → wpList Tryd.prog ops Q rest (a.put o.dst (.tuple #[])) w') : wpList Tryd.prog ops Q (o :: rest) a w := by
  refine wpList_plain hg fun K' hK' => ?_
  obtain ⟨ob, hrun, hD'⟩ := hD.del hk o.type
  obtain ⟨es, clock, hb, _⟩ := hD
  unfold Oper.wp
  simp [execOp, hop, resolve, invoke, builtin, hm, hx, hrun, Result.andThen]
  exact hK' _ _ (hK _ (only_setBlock (Only.refl [b] w) hb (by simp)) hD')

set_option maxHeartbeats 1600000 in
theorem set_any {w : World} {p : Nat} {l : List Nat} {m : SpM} (h : SpaceAt w p l m) (a b v : Int) (hv : v = 0 ∨ v = 1) (hin : m.inR a b) :
    Calls Tryd.prog 47 #[.pointer (some ⟨p, 0, none⟩), .int .i64 a, .int .i64 b, .agg #[.bool (v != 0), .bool false]] w fun e w' => e = .returned (.tuple #[]) ∧ Only l w w' ∧ SpaceAt w' p l (m.setR a b v) := by
  obtain ⟨i1, i2, i3, i4⟩ := hin
  have hn2 := h.good.n2
  have ho0 := (Only.refl [] w).alloc (.cells #[.bool (v != 0), .bool false] 70)
  have bT := Blk.new w 70 #[.bool (v != 0), .bool false]
  have HS := Lib.hid (h.still ho0)
  generalize hx : (v != 0) = x at *
  go_enter Tryd.func47, Tryd.ntmps47
  go_wp2_with fail
  generalize w.alloc (.cells #[.bool x, .bool false] 70) = w0 at *
  go_loopw [8] (fun t wr => ∃ k : Nat, (k : Int) ≤ b ∧ t = .int .i64 (a + k) ∧ Only l w0 wr ∧ Blk wr w.heap.size 70 #[.bool x, .bool false] ∧ SpaceAt wr p l (m.setR a k v)) (fun t _ => (a + b).toNat - (intOf t).toNat)
  case atStart => exact ⟨0, by omega, by simp, Only.refl _ _, bT, by rw [Int.ofNat_zero, SpM.setR_zero]; exact HS.out⟩
  case round =>
    obtain ⟨k, hk, rfl, ho, bK, hsp⟩ := hrel
    by_cases hlt : (k : Int) < b
    · have d1 : decide (a + k < a + b) = true := decide_eq_true (by omega)
      obtain ⟨hg, h3, h4, gp, cap, gm, G, hp⟩ := hsp
      have HPP := Lib.hid hp
      obtain ⟨a1, a2, a3, a4, a5, a6, b1, b2, b3, b4, b5, b6, b7⟩ := hp
      have hmn : (m.setR a k v).n = m.n := rfl
      rw [hmn] at b1 b2
      obtain ⟨i, hi⟩ : ∃ i : Nat, a + k = i := ⟨(a + k).toNat, by omega⟩
      rw [hi] at d1 ⊢
      have hin2 : i < m.n := by omega
      have HL : Hid (w.heap.size ∉ l) := fun hb => by have := h.lt _ hb; omega
      have z0 := b1.cell_ 0 rfl
      have z1 := b1.cell_ 1 rfl
      have y0 := bK.cell_ 0 rfl
      have y1 := bK.cell_ 1 rfl
      have x0 := b3.cell (k := 2 * i) (by rw [hmn]; omega)
      have x1 := b3.cell (k := 2 * i + 1) (by rw [hmn]; omega)
      have f0 := b3.frozen (i * 2)
      have f1 := b3.frozen (i * 2 + 1)
      rw [Nat.mul_comm 2 i] at x0 x1
      generalize pcell (m.setR a k v).st (i * 2) = X0 at x0
      generalize pcell (m.setR a k v).st (i * 2 + 1) = X1 at x1
      have hst := fun j : Int => congrFun (congrArg SpM.st (SpM.setR_succ m a v k)) j
      have hsu := SpM.setR_succ m a v k
      rw [hi] at hsu
      have HB4 := Lib.hid b4
      have HG := Lib.hid hg
      have HROW := Lib.hid (b3.page (st' := ((m.setR a k v).setR i 1 v).st) i x false (by
        show ((if (i : Int) ≤ i ∧ (i : Int) < i + 1 then v else _) != 0) = x; rw [if_pos (by omega)]; exact hx) (by
        show ((if (i : Int) ≤ i ∧ (i : Int) < i + 1 then v else _) == 2) = false; rw [if_pos (by omega)]; exact beq_eq_false_iff_ne.2 (by omega)) (fun j hj => by
        show (if (i : Int) ≤ j ∧ j < i + 1 then v else _) = _; rw [if_neg (by omega)]))
      generalize (m.setR a k v).pk = pk at z0 z1
      have HBK := Lib.hid bK
      clear b1 hg b3 b4 b5 b6 b7 hst bK
      go_wp2_with fail
      go_region
      have ho1 : Only [gp] wr ((wr.setCell ⟨gp, i * 2, none⟩ (.bool x)).setCell ⟨gp, i * 2 + 1, none⟩ (.bool false)).drew := (((Only.refl [gp] wr).setCell (p := ⟨gp, i * 2, none⟩) (.inl (by simp)) _).setCell (p := ⟨gp, i * 2 + 1, none⟩) (.inl (by simp)) _).drew
      have hrow : Row ((wr.setCell ⟨gp, i * 2, none⟩ (.bool x)).setCell ⟨gp, i * 2 + 1, none⟩ (.bool false)).drew gp (2 * m.n) (pcell ((m.setR a k v).setR i 1 v).st) := HROW.out
      generalize ((wr.setCell ⟨gp, i * 2, none⟩ (.bool x)).setCell ⟨gp, i * 2 + 1, none⟩ (.bool false)).drew = w1 at *
      have z1' := (ho1.cell (World.block_lt_of_cell? wr _ z1) (by simpa using a4)).trans z1
      have hD1 := HB4.out.only ho1 (by simpa using a6.symm)
      clear z0 z1 x0 x1 f0 f1 y0 y1
      go_wp2_with (first | (at_delete; refine wpList_del rfl _ _ rfl gm _ G rfl hD1 (i : Int) (by unfold I64; omega) rfl ?_; intro w2 ho2 hD2))
      go_roundw
      case rel =>
        obtain ⟨hg2, hp2⟩ := HPP.out.set1 HG.out (by rw [hmn]; exact hin2) hv ho1 hrow ho2 hD2
        rw [hsu] at hg2 hp2
        refine ⟨k + 1, by omega, by go_num, (ho.then_ ho1 (by simpa using .inl a2)).then_ ho2 (by simpa using .inl a3), ?_, hg2, h3, fun b hb => Nat.lt_of_lt_of_le (h4 b hb) (Nat.le_trans ho1.size ho2.size), gp, cap, gm, _, hp2⟩
        exact (HBK.out.only ho1 (by simp; exact fun e => HL.out (by rw [e]; exact a2))).only ho2 (by simp; exact fun e => HL.out (by rw [e]; exact a3))
      case measure => simp [intOf]; omega
    · have e : (k : Int) = b := by omega
      have d1 : decide (a + k < a + b) = false := decide_eq_false (by omega)
      rw [e] at hsp
      go_wp2_with fail
      go_end0
      exact ⟨rfl, ho0.of_nil.trans ho, hsp⟩
end Go.Proofs.YtmalmkccgjeboaaDoor

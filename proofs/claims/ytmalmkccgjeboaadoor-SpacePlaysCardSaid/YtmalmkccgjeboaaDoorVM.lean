/- Acts: do, made and great. -/
import Derived.Test.YtmalmkccgjeboaaDoorVL
set_option linter.unusedVariables false
set_option linter.unusedSimpArgs false
namespace Go.Proofs.YtmalmkccgjeboaaDoor
open Go.RowKit

/-- A call. -/
structure Ac where
  k : Int
  a : Int
  b : Int
  c : Int
def Ac.z : Ac := ⟨0, 0, 0, 0⟩
def Ac.ok (x : Ac) : Prop := I64 x.k ∧ I64 x.a ∧ I64 x.b ∧ I64 x.c
abbrev vAt (l : List Ac) (j : Nat) : Ac := l.getD j Ac.z
/-- A slice of calls reads as the list. -/
def ReadsA (w : World) (A : Option Addr) (n : Nat) (l : List Ac) : Prop := l.length = n ∧ (∀ j, j < n → (vAt l j).ok) ∧
  (0 < n → ∃ ad, A = some ad ∧ ∀ j, j < n → w.cell? (ad.add (j * 4)) = some (.int .i64 (vAt l j).k) ∧ w.cell? ⟨(ad.add (j * 4)).block, (ad.add (j * 4)).off + 1, none⟩ = some (.int .i64 (vAt l j).a) ∧
    w.cell? ⟨(ad.add (j * 4)).block, (ad.add (j * 4)).off + 2, none⟩ = some (.int .i64 (vAt l j).b) ∧ w.cell? ⟨(ad.add (j * 4)).block, (ad.add (j * 4)).off + 3, none⟩ = some (.int .i64 (vAt l j).c))
theorem ReadsA.still {w w' : World} {A : Option Addr} {n : Nat} {l : List Ac} (h : ReadsA w A n l) (ho : Only [] w w') : ReadsA w' A n l := by
  obtain ⟨h1, h2, h3⟩ := h
  refine ⟨h1, h2, fun h0 => ?_⟩
  obtain ⟨ad, rfl, hc⟩ := h3 h0
  refine ⟨ad, rfl, fun j hj => ?_⟩
  obtain ⟨c1, c2, c3, c4⟩ := hc j hj
  exact ⟨(ho.cell (World.block_lt_of_cell? w _ c1) (by simp)).trans c1, (ho.cell (World.block_lt_of_cell? w _ c2) (by simp)).trans c2, (ho.cell (World.block_lt_of_cell? w _ c3) (by simp)).trans c3, (ho.cell (World.block_lt_of_cell? w _ c4) (by simp)).trans c4⟩
theorem ReadsA.at_ {w : World} {A : Option Addr} {n : Nat} {l : List Ac} (h : ReadsA w A n l) {j : Nat} (hj : j < n) : (vAt l j).ok ∧ ∃ ad, A = some ad ∧ w.cell? (ad.add (j * 4)) = some (.int .i64 (vAt l j).k) ∧ w.cell? ⟨(ad.add (j * 4)).block, (ad.add (j * 4)).off + 1, none⟩ = some (.int .i64 (vAt l j).a) ∧
    w.cell? ⟨(ad.add (j * 4)).block, (ad.add (j * 4)).off + 2, none⟩ = some (.int .i64 (vAt l j).b) ∧ w.cell? ⟨(ad.add (j * 4)).block, (ad.add (j * 4)).off + 3, none⟩ = some (.int .i64 (vAt l j).c) := by
  obtain ⟨h1, h2, h3⟩ := h
  obtain ⟨ad, rfl, hc⟩ := h3 (by omega)
  exact ⟨h2 j hj, ad, rfl, hc j hj⟩
theorem ReadsA.none (w : World) : ReadsA w none 0 [] := ⟨rfl, fun j h => absurd h (by omega), fun h => absurd h (by omega)⟩

namespace SpM
/-- The error of a call. -/
def actE (m : SpM) (x : Ac) : Int :=
  if x.k = 0 then m.mapE x.a x.b else if x.k = 1 then m.leaveE x.a x.b else if x.k = 2 then m.leaveE x.a x.b else if x.k = 3 then m.acc x.a 1 else if x.k = 4 then m.acc x.a 1
  else if x.k = 5 then m.cnt x.a x.b else if x.k = 6 then m.cnt x.a x.b else if x.k = 7 then m.copyE x.a x.b x.c else 0
/-- The space after a call. -/
def act (m : SpM) (x : Ac) : SpM :=
  if x.k = 0 then m.mapM x.a x.b else if x.k = 1 then m.leaveM x.a x.b 0 else if x.k = 2 then m.leaveM x.a x.b 1 else if x.k = 3 then m else if x.k = 4 then m.writeM x.a x.b
  else if x.k = 5 then m else if x.k = 6 then m.fillM x.a x.b x.c else if x.k = 7 then m.copyM x.a x.b x.c else m
/-- The space after the first k calls. -/
def acts (m : SpM) (l : List Ac) : Nat → SpM
  | 0 => m
  | k + 1 => (acts m l k).act (vAt l k)
end SpM

theorem great_any (w : World) (A : Option Addr) (n c : Nat) (hn : n ≤ 9223372036854775807) : Still Tryd.prog 13 #[.slice A n c] w (.bool (decide (40 < n))) := by
  go_enter Tryd.func13, Tryd.ntmps13
  go_wp2_with fail
  go_ret
  exact ⟨ret_bool (decide_eq_decide.2 (by omega)), rfl⟩

set_option maxRecDepth 100000 in
set_option maxHeartbeats 8000000 in
theorem do_any {w : World} (hE : Env w) {p : Nat} {l : List Nat} {m : SpM} (h : SpaceAt w p l m) (x : Ac) (hx : x.ok) :
    Calls Tryd.prog 15 #[.pointer (some ⟨p, 0, none⟩), .agg #[.int .i64 x.k, .int .i64 x.a, .int .i64 x.b, .int .i64 x.c]] w fun e w' => e = .returned (.int .i64 (m.actE x)) ∧ Turn w p l w' (m.act x) := by
  obtain ⟨k, a, b, c⟩ := x
  obtain ⟨hk, ha, hb, hc⟩ := hx
  dsimp only at *
  have ho0 := (Only.refl [] w).alloc (.cells #[.int .i64 k, .int .i64 a, .int .i64 b, .int .i64 c] 30)
  have bX := Blk.new w 30 #[.int .i64 k, .int .i64 a, .int .i64 b, .int .i64 c]
  have HE := Lib.hid (hE.only ho0 (by simp))
  have HS := Lib.hid (h.still ho0)
  have x0 := bX.cell_ 0 rfl
  have x1 := bX.cell_ 1 rfl
  have x2 := bX.cell_ 2 rfl
  have x3 := bX.cell_ 3 rfl
  clear h hE bX hk
  by_cases k0 : k = 0
  · subst k0
    go_enter Tryd.func15, Tryd.ntmps15
    go_wp2_with fail
    refine (Map_any HE.out HS.out a b ha hb).mono ?_
    rintro e w1 ⟨rfl, hT⟩
    go_wp2_with fail
    go_ret
    exact ⟨rfl, Turn.first ho0 hT⟩
  have d0 : (k == 0) = false := beq_eq_false_iff_ne.2 k0
  by_cases k1 : k = 1
  · subst k1
    go_enter Tryd.func15, Tryd.ntmps15
    go_wp2_with fail
    refine (Unmap_any HE.out HS.out a b ha hb).mono ?_
    rintro e w1 ⟨rfl, hT⟩
    go_wp2_with fail
    go_ret
    exact ⟨rfl, Turn.first ho0 hT⟩
  have d1 : (k == 1) = false := beq_eq_false_iff_ne.2 k1
  by_cases k2 : k = 2
  · subst k2
    go_enter Tryd.func15, Tryd.ntmps15
    go_wp2_with fail
    refine (Release_any HE.out HS.out a b ha hb).mono ?_
    rintro e w1 ⟨rfl, hT⟩
    go_wp2_with fail
    go_ret
    exact ⟨rfl, Turn.first ho0 hT⟩
  have d2 : (k == 2) = false := beq_eq_false_iff_ne.2 k2
  by_cases k3 : k = 3
  · subst k3
    go_enter Tryd.func15, Tryd.ntmps15
    go_wp2_with fail
    refine Grew.use (Read_any HE.out HS.out a ha) (fun w1 ho1 => ?_)
    generalize (if m.acc a 1 = 0 then m.h (a / 8) else 0) = rv
    go_wp2_with fail
    go_ret
    exact ⟨rfl, Turn.first ho0 (Turn.same HS.out ho1)⟩
  have d3 : (k == 3) = false := beq_eq_false_iff_ne.2 k3
  by_cases k4 : k = 4
  · subst k4
    go_enter Tryd.func15, Tryd.ntmps15
    go_wp2_with fail
    refine (Write_any HE.out HS.out a b ha hb).mono ?_
    rintro e w1 ⟨rfl, hT⟩
    go_wp2_with fail
    go_ret
    exact ⟨rfl, Turn.first ho0 hT⟩
  have d4 : (k == 4) = false := beq_eq_false_iff_ne.2 k4
  by_cases k5 : k = 5
  · subst k5
    by_cases h0 : m.cnt a b = 0
    · have E := Lib.hid h0
      go_enter Tryd.func15, Tryd.ntmps15
      go_wp2_with fail
      refine (Words_any HE.out HS.out a b ha).mono ?_
      rintro e w1 ⟨ho1, h1, _⟩
      obtain ⟨B, rfl, _⟩ := h1 E.out
      clear h1 h0
      go_wp2_with fail
      go_ret
      exact ⟨by rw [show m.actE ⟨5, a, b, c⟩ = m.cnt a b from rfl, E.out]; rfl, Turn.first ho0 (Turn.same HS.out ho1)⟩
    · have E := Lib.hid h0
      go_enter Tryd.func15, Tryd.ntmps15
      go_wp2_with fail
      refine (Words_any HE.out HS.out a b ha).mono ?_
      rintro e w1 ⟨ho1, _, h1⟩
      rw [h1 E.out]
      clear h1 h0
      go_wp2_with fail
      go_ret
      exact ⟨rfl, Turn.first ho0 (Turn.same HS.out ho1)⟩
  have d5 : (k == 5) = false := beq_eq_false_iff_ne.2 k5
  by_cases k6 : k = 6
  · subst k6
    go_enter Tryd.func15, Tryd.ntmps15
    go_wp2_with fail
    refine (Fill_any HE.out HS.out a b c ha hc).mono ?_
    rintro e w1 ⟨rfl, hT⟩
    go_wp2_with fail
    go_ret
    exact ⟨rfl, Turn.first ho0 hT⟩
  have d6 : (k == 6) = false := beq_eq_false_iff_ne.2 k6
  by_cases k7 : k = 7
  · subst k7
    go_enter Tryd.func15, Tryd.ntmps15
    go_wp2_with fail
    refine (Copy_any HE.out HS.out a b c ha hb).mono ?_
    rintro e w1 ⟨rfl, hT⟩
    go_wp2_with fail
    go_ret
    exact ⟨rfl, Turn.first ho0 hT⟩
  have d7 : (k == 7) = false := beq_eq_false_iff_ne.2 k7
  have E1 := Lib.hid (show m.actE ⟨k, a, b, c⟩ = 0 by unfold SpM.actE; dsimp only; rw [if_neg k0, if_neg k1, if_neg k2, if_neg k3, if_neg k4, if_neg k5, if_neg k6, if_neg k7])
  have E2 := Lib.hid (show m.act ⟨k, a, b, c⟩ = m by unfold SpM.act; dsimp only; rw [if_neg k0, if_neg k1, if_neg k2, if_neg k3, if_neg k4, if_neg k5, if_neg k6, if_neg k7])
  clear k0 k1 k2 k3 k4 k5 k6 k7
  go_enter Tryd.func15, Tryd.ntmps15
  go_wp2_with fail
  go_ret
  exact ⟨by rw [E1.out]; rfl, by rw [E2.out]; exact Turn.first ho0 (Turn.same HS.out (Only.refl _ _))⟩

theorem SpM.act_n (m : SpM) (x : Ac) : (m.act x).n = m.n := by
  unfold SpM.act
  repeat' split
  all_goals first
    | rfl
    | (unfold SpM.mapM; split <;> rfl)
    | (unfold SpM.leaveM; split <;> rfl)
    | (unfold SpM.writeM; split <;> rfl)
    | (unfold SpM.fillM; split; exact SpM.puts_n _ _ _ _; rfl)
    | (unfold SpM.copyM; split; exact SpM.puts_n _ _ _ _; rfl)
theorem SpM.acts_n (m : SpM) (l : List Ac) (k : Nat) : (m.acts l k).n = m.n := by
  induction k with
  | zero => rfl
  | succ k ih => exact (SpM.act_n _ _).trans ih

set_option maxRecDepth 100000 in
set_option maxHeartbeats 4000000 in
/-- made: a space of up to 64 pages, on which the calls were made. -/
theorem lmade_any {w : World} (hE : Env w) (pages : Int) (hp : 0 ≤ pages ∧ pages ≤ 255) (A : Option Addr) (n c : Nat) (l : List Ac) (hr : ReadsA w A n l) (hn : n ≤ 9223372036854775807) :
    Calls Tryd.prog 12 #[.int .u8 pages, .slice A n c] w fun e w' => Only [] w w' ∧ ∃ p L, e = .returned (.pointer (some ⟨p, 0, none⟩)) ∧ SpaceAt w' p L ((SpM.fresh (pages % 64 + 1).toNat).acts l n) ∧ ∀ b ∈ L, w.heap.size ≤ b := by
  have HR := Lib.hid hr
  have HE := Lib.hid hE
  have CN := Lib.hid (New_any hE (pages % 64 + 1))
  have hpg : 1 ≤ pages % 64 + 1 ∧ pages % 64 + 1 ≤ 1024 := by omega
  have HPG := Lib.hid hpg
  clear hr hE hpg
  go_enter Tryd.func12, Tryd.ntmps12
  go_wp2_with fail
  refine CN.out.mono ?_
  rintro e w1 ⟨ho1, hnew, _⟩
  obtain ⟨p, l1, rfl, hs1, hl1⟩ := hnew HPG.out
  obtain ⟨m0, hm0⟩ : ∃ m0, m0 = SpM.fresh (pages % 64 + 1).toNat := ⟨_, rfl⟩
  rw [← hm0] at hs1
  have HM0 := Lib.hid hm0
  have HS1 := Lib.hid hs1
  have HL1 := Lib.hid hl1
  clear hm0
  clear hnew hs1 hl1 CN
  go_wp2_with fail
  go_loopw [7] (fun t wr => ∃ k : Nat, k ≤ n ∧ t = .int .i64 k ∧ Only [] w wr ∧ ∃ L, SpaceAt wr p L (m0.acts l k) ∧ ∀ b ∈ L, w.heap.size ≤ b) (fun t _ => n - (intOf t).toNat)
  case atStart => exact ⟨0, Nat.zero_le _, rfl, ho1, l1, HS1.out, HL1.out⟩
  case round =>
    obtain ⟨k, hk, rfl, ho, L, hs, hL⟩ := hrel
    by_cases hlt : k < n
    · have d1 : decide ((k : Int) < n) = true := decide_eq_true (by omega)
      obtain ⟨hok, ad, rfl, c0, c1, c2, c3⟩ := (HR.out.still ho).at_ hlt
      have CD := Lib.hid (do_any (HE.out.only ho (by simp)) hs (vAt l k) hok)
      have HACT : Hid (m0.acts l (k + 1) = (m0.acts l k).act (vAt l k)) := rfl
      have HHL := Lib.hid hL
      generalize (m0.acts l k).actE (vAt l k) = ee at *
      generalize (m0.acts l k).act (vAt l k) = mm at *
      generalize vAt l k = x at *
      clear hs hok hL
      obtain ⟨xk, xa, xb, xc⟩ := x
      dsimp only at *
      go_wp2_with fail
      refine CD.out.mono ?_
      rintro e w2 ⟨rfl, hT⟩
      obtain ⟨ho2, L2, hs2, hL2⟩ := Turn.new ho HHL.out hT
      go_wp2_with fail
      go_roundw
      case rel => exact ⟨k + 1, by omega, by go_num, ho2, L2, by rw [HACT.out]; exact hs2, hL2⟩
      case measure => simp [intOf]; omega
    · have e : k = n := by omega
      subst e
      have d1 : decide ((k : Int) < k) = false := decide_eq_false (by omega)
      go_wp2_with fail
      go_ret
      exact ⟨ho, p, L, rfl, by rw [← HM0.out]; exact hs, hL⟩
end Go.Proofs.YtmalmkccgjeboaaDoor

/- Contracts of Map, leave, Unmap and Release. -/
import Derived.Test.YtmalmkccgjeboaaDoorVE
set_option linter.unusedVariables false
set_option linter.unusedSimpArgs false
namespace Go.Proofs.YtmalmkccgjeboaaDoor
open Go.RowKit

/-- The space in block p is now m'. Of what was there only blocks of l have turned. -/
def Turn (w : World) (p : Nat) (l : List Nat) (w' : World) (m' : SpM) : Prop := Only l w w' ∧ ∃ l', SpaceAt w' p l' m' ∧ ∀ b ∈ l', b ∈ l ∨ w.heap.size ≤ b
theorem Turn.same {w w' : World} {p : Nat} {l : List Nat} {m : SpM} (h : SpaceAt w p l m) (ho : Only [] w w') : Turn w p l w' m := ⟨ho.of_nil, l, h.still ho, fun b hb => .inl hb⟩
theorem Turn.in_ {w w' : World} {p : Nat} {l : List Nat} {m : SpM} (ho : Only l w w') (h : SpaceAt w' p l m) : Turn w p l w' m := ⟨ho, l, h, fun b hb => .inl hb⟩
theorem Turn.step {w w1 w2 : World} {p : Nat} {l l1 : List Nat} {m2 : SpM} (ho : Only l w w1) (hl : ∀ b ∈ l1, b ∈ l ∨ w.heap.size ≤ b) (h : Turn w1 p l1 w2 m2) : Turn w p l w2 m2 := by
  obtain ⟨h1, l2, h2, h3⟩ := h
  refine ⟨ho.then_ h1 hl, l2, h2, fun b hb => ?_⟩
  rcases h3 b hb with h4 | h4
  · exact hl b h4
  · exact .inr (Nat.le_trans ho.size h4)
theorem Turn.first {w w1 w2 : World} {p : Nat} {l : List Nat} {m2 : SpM} (ho : Only [] w w1) (h : Turn w1 p l w2 m2) : Turn w p l w2 m2 := Turn.step ho.of_nil (fun b hb => .inl hb) h
theorem Turn.last {w w1 w2 : World} {p : Nat} {l : List Nat} {m2 : SpM} (h : Turn w p l w1 m2) (ho : Only [] w1 w2) : Turn w p l w2 m2 := by
  obtain ⟨h1, l2, h2, h3⟩ := h
  exact ⟨h1.trans ho.of_nil, l2, h2.still ho, h3⟩

namespace SpM
def mapE (m : SpM) (a b : Int) : Int := if ¬ m.inR a b then 1 else if anyTo (fun v => v != 0) (fun k => m.st (a + k)) b.toNat then 5 else 0
def mapM (m : SpM) (a b : Int) : SpM := if m.mapE a b = 0 then m.setR a b 1 else m
def leaveE (m : SpM) (a b : Int) : Int := if ¬ m.inR a b then 1 else if anyTo (fun v => v == 0) (fun k => m.st (a + k)) b.toNat then 7 else 0
def leaveM (m : SpM) (a b v : Int) : SpM := if m.leaveE a b = 0 then m.setR a b v else m
end SpM

set_option maxHeartbeats 1600000 in
theorem Map_any {w : World} (hE : Env w) {p : Nat} {l : List Nat} {m : SpM} (h : SpaceAt w p l m) (a b : Int) (ha : I64 a) (hb : I64 b) :
    Calls Tryd.prog 25 #[.pointer (some ⟨p, 0, none⟩), .int .i64 a, .int .i64 b] w fun e w' => e = .returned (.int .i64 (m.mapE a b)) ∧ Turn w p l w' (m.mapM a b) := by
  have CR := Lib.hid (run_any h a b ha hb)
  have HH := Lib.hid h
  have HE := Lib.hid hE
  by_cases hin : m.inR a b
  · have HS1 := h.good.s1
    have hb2 : b.toNat ≤ 9223372036854775807 := by obtain ⟨i1, i2, i3, i4⟩ := hin; have := h.good.n2; omega
    have HIN := Lib.hid hin
    clear h hE
    go_enter Tryd.func25, Tryd.ntmps25
    go_wp2_with fail
    refine CR.out.mono ?_
    rintro e w1 ⟨rfl, h1, _⟩
    obtain ⟨A, c, rfl, hr⟩ := h1 HIN.out
    have CC := Lib.hid (ContainsFunc_any w HE.out A _ c _ hr hb2 (fun k => HS1 _))
    cases hq : anyTo (fun v => v != 0) (fun k => m.st (a + k)) b.toNat
    · have e1 : m.mapE a b = 0 := by unfold SpM.mapE; rw [if_neg (by simpa using hin), if_neg (by simp [hq])]
      have e2 : m.mapM a b = m.setR a b 1 := by unfold SpM.mapM; rw [if_pos e1]
      rw [hq] at CC
      have E1 := Lib.hid e1
      have E2 := Lib.hid e2
      clear hin h1 hr hq e1 e2 HS1
      have g0 := cell_after HE.out.c0
      have g1 := cell_after HE.out.c1
      go_wp2_with (first | (go_at_call 45; refine Grew.use CC.out (fun w1 ho1 => ?_); have c0 := g0 ⟨w1, ho1⟩; have c1 := g1 ⟨w1, ho1⟩))
      refine (set_any (HH.out.still ho1) a b 1 (.inr rfl) HIN.out).mono ?_
      rintro e w2 ⟨rfl, ho2, hs2⟩
      go_wp2_with fail
      go_ret
      exact ⟨by rw [E1.out]; rfl, by rw [E2.out]; exact Turn.in_ (ho1.of_nil.trans ho2) hs2⟩
    · have e1 : m.mapE a b = 5 := by unfold SpM.mapE; rw [if_neg (by simpa using hin), if_pos (by simp [hq])]
      have e2 : m.mapM a b = m := by unfold SpM.mapM; rw [if_neg (by rw [e1]; decide)]
      rw [hq] at CC
      have E1 := Lib.hid e1
      have E2 := Lib.hid e2
      clear hin h1 hr hq e1 e2 HS1
      go_wp2_with (first | (go_at_call 45; refine Grew.use CC.out (fun w1 ho1 => ?_)))
      go_ret
      exact ⟨by rw [E1.out]; rfl, by rw [E2.out]; exact Turn.same HH.out ho1⟩
  · have e1 : m.mapE a b = 1 := by unfold SpM.mapE; rw [if_pos hin]
    have e2 : m.mapM a b = m := by unfold SpM.mapM; rw [if_neg (by rw [e1]; decide)]
    have HIN := Lib.hid hin
    have E1 := Lib.hid e1
    have E2 := Lib.hid e2
    clear h hE hin e1 e2
    go_enter Tryd.func25, Tryd.ntmps25
    go_wp2_with fail
    refine CR.out.mono ?_
    rintro e w1 ⟨rfl, _, h1⟩
    rw [h1 HIN.out]
    go_wp2_with fail
    go_ret
    exact ⟨by rw [E1.out]; rfl, by rw [E2.out]; exact Turn.same HH.out (Only.refl _ _)⟩

set_option maxHeartbeats 1600000 in
theorem leave_any {w : World} (hE : Env w) {p : Nat} {l : List Nat} {m : SpM} (h : SpaceAt w p l m) (a b v : Int) (ha : I64 a) (hb : I64 b) (hv : v = 0 ∨ v = 1) :
    Calls Tryd.prog 42 #[.pointer (some ⟨p, 0, none⟩), .int .i64 a, .int .i64 b, .agg #[.bool (v != 0), .bool false]] w fun e w' => e = .returned (.int .i64 (m.leaveE a b)) ∧ Turn w p l w' (m.leaveM a b v) := by
  have ho0 := (Only.refl [] w).alloc (.cells #[.bool (v != 0), .bool false] 70)
  have bT := Blk.new w 70 #[.bool (v != 0), .bool false]
  have y0 := cell_after (bT.cell_ 0 rfl)
  have y1 := cell_after (bT.cell_ 1 rfl)
  have HH := Lib.hid (h.still ho0)
  have HE := Lib.hid (hE.only ho0 (by simp))
  have CR := Lib.hid (run_any HH.out a b ha hb)
  have CS := Lib.hid (fun W (ho : Only [] (w.alloc (.cells #[.bool (v != 0), .bool false] 70)) W) hin => set_any (HH.out.still ho) a b v hv hin)
  have hgd := h.good
  generalize hx : (v != 0) = x at *
  clear h hE bT
  by_cases hin : m.inR a b
  · have HS1 := hgd.s1
    have hb2 : b.toNat ≤ 9223372036854775807 := by obtain ⟨i1, i2, i3, i4⟩ := hin; have := hgd.n2; omega
    have HIN := Lib.hid hin
    go_enter Tryd.func42, Tryd.ntmps42
    go_wp2_with fail
    generalize w.alloc (.cells #[.bool x, .bool false] 70) = w0 at *
    refine CR.out.mono ?_
    rintro e w1 ⟨rfl, h1, _⟩
    obtain ⟨A, c, rfl, hr⟩ := h1 HIN.out
    have CC := Lib.hid (Contains_any w0 A _ c _ hr hb2 (fun k => HS1 _))
    have u0 := HE.out.u0
    have u1 := HE.out.u1
    cases hq : anyTo (fun v => v == 0) (fun k => m.st (a + k)) b.toNat
    · have e1 : m.leaveE a b = 0 := by unfold SpM.leaveE; rw [if_neg (by simpa using hin), if_neg (by simp [hq])]
      have e2 : m.leaveM a b v = m.setR a b v := by unfold SpM.leaveM; rw [if_pos e1]
      rw [hq] at CC
      have E1 := Lib.hid e1
      have E2 := Lib.hid e2
      clear hin h1 hr hq e1 e2 HS1 hgd
      go_wp2_with (first | (go_at_call 67; refine Grew.use CC.out (fun w1 ho1 => ?_); have c0 := y0 ⟨w1, ho1⟩; have c1 := y1 ⟨w1, ho1⟩))
      refine (CS.out _ ho1 HIN.out).mono ?_
      rintro e w2 ⟨rfl, ho2, hs2⟩
      go_wp2_with fail
      go_ret
      exact ⟨by rw [E1.out]; rfl, by rw [E2.out]; exact Turn.in_ (ho0.of_nil.trans (ho1.of_nil.trans ho2)) hs2⟩
    · have e1 : m.leaveE a b = 7 := by unfold SpM.leaveE; rw [if_neg (by simpa using hin), if_pos (by simp [hq])]
      have e2 : m.leaveM a b v = m := by unfold SpM.leaveM; rw [if_neg (by rw [e1]; decide)]
      rw [hq] at CC
      have E1 := Lib.hid e1
      have E2 := Lib.hid e2
      clear hin h1 hr hq e1 e2 HS1 hgd
      go_wp2_with (first | (go_at_call 67; refine Grew.use CC.out (fun w1 ho1 => ?_)))
      go_ret
      exact ⟨by rw [E1.out]; rfl, by rw [E2.out]; exact Turn.first ho0 (Turn.same HH.out ho1)⟩
  · have e1 : m.leaveE a b = 1 := by unfold SpM.leaveE; rw [if_pos hin]
    have e2 : m.leaveM a b v = m := by unfold SpM.leaveM; rw [if_neg (by rw [e1]; decide)]
    have HIN := Lib.hid hin
    have E1 := Lib.hid e1
    have E2 := Lib.hid e2
    clear hin e1 e2
    go_enter Tryd.func42, Tryd.ntmps42
    go_wp2_with fail
    generalize w.alloc (.cells #[.bool x, .bool false] 70) = w0 at *
    refine CR.out.mono ?_
    rintro e w1 ⟨rfl, _, h1⟩
    rw [h1 HIN.out]
    go_wp2_with fail
    go_ret
    exact ⟨by rw [E1.out]; rfl, by rw [E2.out]; exact Turn.first ho0 (Turn.same HH.out (Only.refl _ _))⟩

theorem Unmap_any {w : World} (hE : Env w) {p : Nat} {l : List Nat} {m : SpM} (h : SpaceAt w p l m) (a b : Int) (ha : I64 a) (hb : I64 b) :
    Calls Tryd.prog 23 #[.pointer (some ⟨p, 0, none⟩), .int .i64 a, .int .i64 b] w fun e w' => e = .returned (.int .i64 (m.leaveE a b)) ∧ Turn w p l w' (m.leaveM a b 0) := by
  have C := Lib.hid (leave_any hE h a b 0 ha hb (.inl rfl))
  have u0 := hE.u0
  have u1 := hE.u1
  clear h hE
  go_enter Tryd.func23, Tryd.ntmps23
  go_wp2_with fail
  refine C.out.mono ?_
  rintro e w2 ⟨rfl, ht⟩
  go_wp2_with fail
  go_ret
  exact ⟨rfl, ht⟩
theorem Release_any {w : World} (hE : Env w) {p : Nat} {l : List Nat} {m : SpM} (h : SpaceAt w p l m) (a b : Int) (ha : I64 a) (hb : I64 b) :
    Calls Tryd.prog 26 #[.pointer (some ⟨p, 0, none⟩), .int .i64 a, .int .i64 b] w fun e w' => e = .returned (.int .i64 (m.leaveE a b)) ∧ Turn w p l w' (m.leaveM a b 1) := by
  have C := Lib.hid (leave_any hE h a b 1 ha hb (.inr rfl))
  have u0 := hE.c0
  have u1 := hE.c1
  clear h hE
  go_enter Tryd.func26, Tryd.ntmps26
  go_wp2_with fail
  refine C.out.mono ?_
  rintro e w2 ⟨rfl, ht⟩
  go_wp2_with fail
  go_ret
  exact ⟨rfl, ht⟩
end Go.Proofs.YtmalmkccgjeboaaDoor

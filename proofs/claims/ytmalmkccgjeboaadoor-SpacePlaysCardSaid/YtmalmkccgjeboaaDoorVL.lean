/- alive. -/
import Derived.Test.YtmalmkccgjeboaaDoorVK
set_option linter.unusedVariables false
set_option linter.unusedSimpArgs false
namespace Go.Proofs.YtmalmkccgjeboaaDoor
open Go.RowKit

def al0 : SpM := SpM.fresh 4
def al1 : SpM := al0.mapM 1 2
def al2 : SpM := al1.writeM 256 7
def al3 : SpM := al2.leaveM 1 1 1
theorem al_1 : al0.mapE 1 2 = 0 := by decide +kernel
theorem al_2 : (if al1.acc 256 1 = 0 then al1.h (256 / 8) else 0) = 0 ∧ al1.acc 256 1 = 0 := by decide +kernel
theorem al_3 : (if al2.acc 256 1 = 0 then al2.h (256 / 8) else 0) = 7 ∧ al2.acc 256 1 = 0 ∧ al2.dirty = 1 ∧ al2.stateOf 2 = 1 ∧ al2.leaveE 1 1 = 0 := by decide +kernel
theorem al_4 : (if al3.acc 256 1 = 0 then al3.h (256 / 8) else 0) = 0 ∧ al3.acc 256 1 = 0 ∧ (if al3.acc 257 1 = 0 then al3.h (257 / 8) else 0) = 0 ∧ al3.acc 257 1 = 7 ∧ al3.dirty = 0 ∧ al3.pk = 1 ∧ al3.mapE 2 1 = 5 ∧ al3.leaveE 0 2 = 7 := by decide +kernel
theorem al_5 : al3.mapM 2 1 = al3 := if_neg (by rw [al_4.2.2.2.2.2.2.1]; decide)
theorem al_6 : al3.leaveM 0 2 0 = al3 := if_neg (by rw [al_4.2.2.2.2.2.2.2]; decide)

/-- A turn of a space that is all new leaves what was there as it was. -/
theorem Turn.new {w w1 w2 : World} {p : Nat} {l : List Nat} {m : SpM} (ho : Only [] w w1) (hl : ∀ b ∈ l, w.heap.size ≤ b) (h : Turn w1 p l w2 m) : Only [] w w2 ∧ ∃ l', SpaceAt w2 p l' m ∧ ∀ b ∈ l', w.heap.size ≤ b := by
  obtain ⟨h1, l', h2, h3⟩ := h
  refine ⟨ho.then_ h1 (fun b hb => .inr (hl b hb)), l', h2, fun b hb => ?_⟩
  rcases h3 b hb with h4 | h4
  · exact hl b h4
  · exact Nat.le_trans ho.size h4

theorem i64_ (x : Int) (h : -9223372036854775808 ≤ x ∧ x ≤ 9223372036854775807) : I64 x := h

set_option maxRecDepth 100000 in
set_option maxHeartbeats 8000000 in
theorem alive_any (w : World) (hE : Env w) : Grew Tryd.prog 14 #[] w (.bool true) := by
  have HE := Lib.hid hE
  go_enter Tryd.func14, Tryd.ntmps14
  go_wp2_with fail
  refine (New_any hE 4).mono ?_
  rintro e w1 ⟨ho1, hn, _⟩
  obtain ⟨p, l1, rfl, hs1, hl1⟩ := hn (by decide)
  clear hn hE
  have HE1 := HE.out.only ho1 (by simp)
  go_wp2_with fail
  refine (Map_any HE1 hs1 1 2 (i64_ _ (by decide)) (i64_ _ (by decide))).mono ?_
  rintro e w2 ⟨rfl, hT⟩
  obtain ⟨ho2, l2, hs2, hl2⟩ := Turn.new ho1 hl1 hT
  rw [show (SpM.fresh (Int.toNat 4)).mapE 1 2 = 0 from al_1]
  replace hs2 : SpaceAt w2 p l2 al1 := hs2
  clear hs1 hl1 hT ho1 HE1 l1
  have HE1 := HE.out.only ho2 (by simp)
  go_wp2_with fail
  refine Grew.use (Read_any HE1 hs2 256 (i64_ _ (by decide))) (fun w3 ho3 => ?_)
  rw [al_2.1, al_2.2]
  replace hs2 := hs2.still ho3
  replace HE1 := HE1.only ho3 (by simp)
  replace ho2 := ho2.trans ho3
  clear ho3 w2
  go_wp2_with fail
  refine (Write_any HE1 hs2 256 7 (i64_ _ (by decide)) (i64_ _ (by decide))).mono ?_
  rintro e w4 ⟨rfl, hT⟩
  obtain ⟨ho4, l4, hs4, hl4⟩ := Turn.new ho2 hl2 hT
  rw [al_2.2]
  replace hs4 : SpaceAt w4 p l4 al2 := hs4
  clear hs2 hl2 hT ho2 HE1 l2 w3
  have HE1 := HE.out.only ho4 (by simp)
  go_wp2_with fail
  refine Grew.use (Read_any HE1 hs4 256 (i64_ _ (by decide))) (fun w5 ho5 => ?_)
  rw [al_3.1, al_3.2.1]
  replace hs4 := hs4.still ho5
  replace HE1 := HE1.only ho5 (by simp)
  replace ho4 := ho4.trans ho5
  clear ho5 w4
  go_wp2_with fail
  refine Still.use (Dirty_any hs4) ?_
  rw [al_3.2.2.1]
  go_wp2_with fail
  refine Grew.use (State_any HE1 hs4 2 (i64_ _ (by decide))) (fun w6 ho6 => ?_)
  rw [al_3.2.2.2.1]
  replace hs4 := hs4.still ho6
  replace HE1 := HE1.only ho6 (by simp)
  replace ho4 := ho4.trans ho6
  clear ho6 w5
  go_wp2_with fail
  refine (Release_any HE1 hs4 1 1 (i64_ _ (by decide)) (i64_ _ (by decide))).mono ?_
  rintro e w7 ⟨rfl, hT⟩
  obtain ⟨ho7, l7, hs7, hl7⟩ := Turn.new ho4 hl4 hT
  rw [al_3.2.2.2.2]
  replace hs7 : SpaceAt w7 p l7 al3 := hs7
  clear hs4 hl4 hT ho4 HE1 l4 w6
  have HE1 := HE.out.only ho7 (by simp)
  go_wp2_with fail
  refine Grew.use (Read_any HE1 hs7 256 (i64_ _ (by decide))) (fun w8 ho8 => ?_)
  rw [al_4.1, al_4.2.1]
  replace hs7 := hs7.still ho8
  replace HE1 := HE1.only ho8 (by simp)
  replace ho7 := ho7.trans ho8
  clear ho8 w7
  go_wp2_with fail
  refine Grew.use (Read_any HE1 hs7 257 (i64_ _ (by decide))) (fun w9 ho9 => ?_)
  rw [al_4.2.2.1, al_4.2.2.2.1]
  replace hs7 := hs7.still ho9
  replace HE1 := HE1.only ho9 (by simp)
  replace ho7 := ho7.trans ho9
  clear ho9 w8
  go_wp2_with fail
  refine Still.use (Dirty_any hs7) ?_
  rw [al_4.2.2.2.2.1]
  go_wp2_with fail
  refine Still.use (Peak_any hs7) ?_
  rw [al_4.2.2.2.2.2.1]
  go_wp2_with fail
  refine (Map_any HE1 hs7 2 1 (i64_ _ (by decide)) (i64_ _ (by decide))).mono ?_
  rintro e w10 ⟨rfl, hT⟩
  rw [al_5] at hT
  obtain ⟨ho10, l10, hs10, hl10⟩ := Turn.new ho7 hl7 hT
  rw [al_4.2.2.2.2.2.2.1]
  clear hs7 hl7 hT ho7 HE1 l7 w9
  have HE1 := HE.out.only ho10 (by simp)
  go_wp2_with fail
  refine (Unmap_any HE1 hs10 0 2 (i64_ _ (by decide)) (i64_ _ (by decide))).mono ?_
  rintro e w11 ⟨rfl, hT⟩
  obtain ⟨ho11, _⟩ := Turn.new ho10 hl10 hT
  rw [al_4.2.2.2.2.2.2.2]
  go_wp2_with fail
  go_ret
  exact ⟨rfl, ho11⟩
end Go.Proofs.YtmalmkccgjeboaaDoor

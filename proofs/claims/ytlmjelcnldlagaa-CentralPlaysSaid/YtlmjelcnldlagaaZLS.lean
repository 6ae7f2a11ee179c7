/- alive of the list's laws. -/
import Derived.Test.YtlmjelcnldlagaaZLQ
set_option linter.unusedVariables false
set_option linter.unusedSimpArgs false
namespace Go.Proofs.Ytlmjelcnldlagaa
open Go.RowKit

def c0 : Cl := ⟨256, 1, 2⟩
def sp0 (s : Int) : Sp := ⟨s, 256, 1, 2, 0, [0]⟩
def sp1 (s : Int) : Sp := ⟨s, 256, 1, 2, 1, [1]⟩
theorem c0_ok : c0.ok := by unfold Cl.ok oneP c0; decide
theorem a_1 : addE [] c0 16 = 0 ∧ addM [] c0 16 = [sp0 16] := ⟨by kernel_rfl, by kernel_rfl⟩
theorem a_2 : addE [sp0 16] c0 18 = 0 ∧ addM [sp0 16] c0 18 = [sp0 16, sp0 18] := ⟨by kernel_rfl, by kernel_rfl⟩
theorem a_3 : takesTo [sp0 16, sp0 18] 1 = ([4096], [sp1 16, sp0 18]) := by kernel_rfl
theorem a_4 : addE [sp1 16, sp0 18] c0 17 = 0 ∧ addM [sp1 16, sp0 18] c0 17 = [sp1 16, sp0 17, sp0 18] := ⟨by kernel_rfl, by kernel_rfl⟩
theorem a_5 : takesTo [sp1 16, sp0 17, sp0 18] 2 = ([4352, 4608], [sp1 16, sp1 17, sp1 18]) := by kernel_rfl
theorem a_6 : putE [sp1 16, sp1 17, sp1 18] [4096] = 0 ∧ putM [sp1 16, sp1 17, sp1 18] [4096] = [sp1 17, sp1 18] ∧ putR [sp1 16, sp1 17, sp1 18] [4096] = [(16, 1)] := ⟨by kernel_rfl, by kernel_rfl, by kernel_rfl⟩
theorem a_7 : putE [sp1 17, sp1 18] [4352, 4352] = 9 ∧ putM [sp1 17, sp1 18] [4352, 4352] = [sp1 17, sp1 18] := ⟨by kernel_rfl, by kernel_rfl⟩
theorem a_8 : putE [sp1 17, sp1 18] [4353] = 8 ∧ putM [sp1 17, sp1 18] [4353] = [sp1 17, sp1 18] := ⟨by kernel_rfl, by kernel_rfl⟩
theorem a_9 : spansOf [sp1 17, sp1 18] = [(17, 1), (18, 1)] := by kernel_rfl

theorem own_turn {w w' : World} {bl : List Nat} {base : Nat} {e : TypeId} {size n : Nat} {v : Value} {xs : List Value} (hown : w.ownsRow base e size v n xs) (hv : ∀ k, v.ownBlock = some k → k ∉ bl) (ho : Only bl w w') : w'.ownsRow base e size v n xs := own_only hown ho hv
theorem not_in {w : World} {bl bl' : List Nat} {base : Nat} {e : TypeId} {size n : Nat} {v : Value} {xs : List Value} (hown : w.ownsRow base e size v n xs) (hv : ∀ k, v.ownBlock = some k → k ∉ bl) (hbl : ∀ b ∈ bl', b ∈ bl ∨ w.heap.size ≤ b) : ∀ k, v.ownBlock = some k → k ∉ bl' := fun k hk hb => by
  rcases hbl k hb with h | h
  · exact hv k hk h
  · have := own_lt hown k hk; omega
theorem own_new {w : World} {bl : List Nat} {base : Nat} {e : TypeId} {size n : Nat} {v : Value} {xs : List Value} (hown : w.ownsRow base e size v n xs) (hlt : ∀ b ∈ bl, b < base) : ∀ k, v.ownBlock = some k → k ∉ bl := fun k hk hb => by
  have := own_base hown k hk
  have := hlt k hb
  omega
theorem reads_lit1 (w : World) (x : Int) : ReadsI (w.alloc (.cells #[.int .i64 x] 3)) (some ⟨w.heap.size, 0, none⟩) 1 [x] := ⟨rfl, fun _ => ⟨_, rfl, fun j hj => by
  obtain rfl : j = 0 := by omega
  rw [add_plain]
  exact (Blk.new w 3 #[.int .i64 x]).cell_ 0 rfl⟩⟩
theorem reads_lit2 (w : World) (x y : Int) : ReadsI (w.alloc (.cells #[.int .i64 x, .int .i64 y] 3)) (some ⟨w.heap.size, 0, none⟩) 2 [x, y] := ⟨rfl, fun _ => ⟨_, rfl, fun j hj => by
  rw [add_plain]
  rcases (by omega : j = 0 ∨ j = 1) with rfl | rfl
  · exact (Blk.new w 3 #[.int .i64 x, .int .i64 y]).cell_ 0 rfl
  · exact (Blk.new w 3 #[.int .i64 x, .int .i64 y]).cell_ 1 rfl⟩⟩
theorem readsR_lit1 (w : World) (x y : Int) : ReadsR (w.alloc (.cells #[.int .i64 x, .int .i64 y] 37)) (.slice (some ⟨w.heap.size, 0, none⟩) 1 1) 1 [(x, y)] := ⟨_, _, rfl, fun _ => ⟨_, rfl, fun j hj => by
  obtain rfl : j = 0 := by omega
  exact ⟨(Blk.new w 37 #[.int .i64 x, .int .i64 y]).cell_ 0 rfl, (Blk.new w 37 #[.int .i64 x, .int .i64 y]).cell_ 1 rfl⟩⟩⟩
theorem readsR_lit2 (w : World) (x y z u : Int) : ReadsR (w.alloc (.cells #[.int .i64 x, .int .i64 y, .int .i64 z, .int .i64 u] 37)) (.slice (some ⟨w.heap.size, 0, none⟩) 2 2) 2 [(x, y), (z, u)] := ⟨_, _, rfl, fun _ => ⟨_, rfl, fun j hj => by
  rcases (by omega : j = 0 ∨ j = 1) with rfl | rfl
  · exact ⟨(Blk.new w 37 #[.int .i64 x, .int .i64 y, .int .i64 z, .int .i64 u]).cell_ 0 rfl, (Blk.new w 37 #[.int .i64 x, .int .i64 y, .int .i64 z, .int .i64 u]).cell_ 1 rfl⟩
  · exact ⟨(Blk.new w 37 #[.int .i64 x, .int .i64 y, .int .i64 z, .int .i64 u]).cell_ 2 rfl, (Blk.new w 37 #[.int .i64 x, .int .i64 y, .int .i64 z, .int .i64 u]).cell_ 3 rfl⟩⟩⟩
theorem ints_own (w : World) {base : Nat} {v : Value} {n d : Nat} {l : List Int} {B : Option Addr} (h : w.ownsRow base 3 1 v n (l.map (Value.int .i64))) (hb : ReadsI w B n l) (hn : n ≤ 1000000) : Grew Try.prog 28 #[v, .slice B n d] w (.bool true) := by
  obtain ⟨A, c, rfl, hr, _⟩ := own_reads h
  exact (ints_same w A B n c d l hr hb hn).grew

theorem lit1_i64 (x : Int) (h : -9223372036854775808 ≤ x ∧ x ≤ 9223372036854775807) : ∀ j, j < 1 → I64 (iAt [x] j) := fun j hj => by
  obtain rfl : j = 0 := by omega
  exact h
theorem i64s (x : Int) (h : -9223372036854775808 ≤ x ∧ x ≤ 9223372036854775807) : I64 x := h

set_option maxRecDepth 100000 in
set_option maxHeartbeats 8000000 in
theorem alive_any (w : World) : Grew Try.prog 14 #[] w (.bool true) := by
  have CN := Lib.hid (lNew_any w c0)
  go_enter Try.func14, Try.ntmps14
  go_wp2_with fail
  refine CN.out.mono ?_
  rintro e w1 ⟨ho1, h1, _⟩
  obtain ⟨P, bl1, rfl, hst1, hbl1⟩ := h1 c0_ok
  clear h1 CN
  have C1 := Lib.hid (lAdd_at hst1 16 (i64s _ (by decide)))
  rw [a_1.1, a_1.2] at C1
  clear hst1
  go_wp2_with fail
  refine C1.out.mono ?_
  rintro e w2 ⟨rfl, hT⟩
  obtain ⟨ho2, bl2, hst2, hbl2⟩ := LTurn.new ho1 hbl1 hT
  have C2 := Lib.hid (lAdd_at hst2 18 (i64s _ (by decide)))
  rw [a_2.1, a_2.2] at C2
  clear hT hst2 hbl1 C1
  go_wp2_with fail
  refine C2.out.mono ?_
  rintro e w3 ⟨rfl, hT⟩
  obtain ⟨ho3, bl3, hst3, hbl3⟩ := LTurn.new ho2 hbl2 hT
  have C3 := Lib.hid (lTake_at hst3 1)
  have L3 := Lib.hid hst3.lt
  clear hT hst3 hbl2 C2
  go_wp2_with fail
  refine C3.out.mono ?_
  rintro e w4 ⟨hoT, _, h1⟩
  obtain ⟨v1, rfl, hst4, hown1⟩ := h1 (by decide)
  rw [show (takesTo [sp0 16, sp0 18] (Int.toNat 1)) = ([4096], [sp1 16, sp0 18]) from a_3] at hst4 hown1
  have hn1 := own_new hown1 L3.out
  have ho4 : Only [] w w4 := ho3.then_ hoT (fun b hb => .inr (hbl3 b hb))
  have C4 := Lib.hid (lAdd_at hst4 17 (i64s _ (by decide)))
  rw [a_4.1, a_4.2] at C4
  clear h1 C3 hoT hst4
  have HN1 := Lib.hid hn1
  have HO1 := Lib.hid hown1
  clear hn1 hown1
  go_wp2_with fail
  refine C4.out.mono ?_
  rintro e w5 ⟨rfl, hT⟩
  have hown1' := own_turn HO1.out HN1.out hT.1
  obtain ⟨hoA, bl5, hst5, hbx⟩ := id hT
  have hn1' := not_in HO1.out HN1.out hbx
  have hbl5 : ∀ b ∈ bl5, w.heap.size ≤ b := fun b hb => by
    rcases hbx b hb with h | h
    · exact hbl3 b h
    · have := ho4.size; omega
  have ho5 : Only [] w w5 := ho4.then_ hoA (fun b hb => .inr (hbl3 b hb))
  have C5 := Lib.hid (lTake_at hst5 2)
  have L5 := Lib.hid hst5.lt
  have HO15 := Lib.hid hown1'
  have HN15 := Lib.hid hn1'
  clear hT hoA hst5 hbx hown1' hn1' C4
  go_wp2_with fail
  refine C5.out.mono ?_
  rintro e w6 ⟨hoT, _, h1⟩
  obtain ⟨v2, rfl, hst6, hown2⟩ := h1 (by decide)
  rw [show (takesTo [sp1 16, sp0 17, sp0 18] (Int.toNat 2)) = ([4352, 4608], [sp1 16, sp1 17, sp1 18]) from a_5] at hst6 hown2
  have hown1 := own_turn HO15.out HN15.out hoT
  have hn2 := own_new hown2 L5.out
  have ho6 : Only [] w w6 := ho5.then_ hoT (fun b hb => .inr (hbl5 b hb))
  have L6 := Lib.hid hst6.lt
  have b6 := (Only.refl [] w6).alloc (.cells #[.int .i64 4096] 3)
  have C6 := Lib.hid (lPut_at (hst6.still b6) (some ⟨w6.heap.size, 0, none⟩) 1 1 [4096] (reads_lit1 w6 4096) (lit1_i64 _ (by decide)) (by decide) (Nat.le_refl _) (fun _ ad e hb => by injection e with e; subst e; have := hst6.lt _ hb; exact Nat.lt_irrefl _ this))
  rw [a_6.1, a_6.2.1, a_6.2.2] at C6
  have HO16 := Lib.hid (own_only hown1 b6 (by simp))
  have HO26 := Lib.hid (own_only hown2 b6 (by simp))
  have HN26 := Lib.hid hn2
  have ho6b := ho6.trans b6
  have hsz6 := b6.size
  clear h1 C5 hoT hst6 hown1 hown2 hn2
  go_wp2_with fail
  refine C6.out.mono ?_
  rintro e w7 ⟨v3, rfl, hoP, hst7, hown3⟩
  have hown1 := own_turn HO16.out HN15.out hoP
  have hown2 := own_turn HO26.out HN26.out hoP
  have hn3 := own_new hown3 (fun b hb => Nat.lt_of_lt_of_le (L6.out b hb) hsz6)
  have ho7 : Only [] w w7 := ho6b.then_ hoP (fun b hb => .inr (hbl5 b hb))
  have b7 := (Only.refl [] w7).alloc (.cells #[.int .i64 4352, .int .i64 4352] 3)
  have C7 := Lib.hid (lPut_at (hst7.still b7) (some ⟨w7.heap.size, 0, none⟩) 2 2 [4352, 4352] (reads_lit2 w7 4352 4352) (fun j hj => by
    rcases (by omega : j = 0 ∨ j = 1) with rfl | rfl <;> exact i64s _ (by decide)) (by decide) (Nat.le_refl _) (fun _ ad e hb => by injection e with e; subst e; have := hst7.lt _ hb; exact Nat.lt_irrefl _ this))
  rw [a_7.1, a_7.2] at C7
  have HO17 := Lib.hid (own_only hown1 b7 (by simp))
  have HO27 := Lib.hid (own_only hown2 b7 (by simp))
  have HO37 := Lib.hid (own_only hown3 b7 (by simp))
  have HN37 := Lib.hid hn3
  have ho7b := ho7.trans b7
  clear C6 hoP hst7 hown1 hown2 hown3 hn3 b6
  go_wp2_with fail
  refine C7.out.mono ?_
  rintro e w8 ⟨v4, rfl, hoP, hst8, _⟩
  have hown1 := own_turn HO17.out HN15.out hoP
  have hown2 := own_turn HO27.out HN26.out hoP
  have hown3 := own_turn HO37.out HN37.out hoP
  have ho8 : Only [] w w8 := ho7b.then_ hoP (fun b hb => .inr (hbl5 b hb))
  have b8 := (Only.refl [] w8).alloc (.cells #[.int .i64 4353] 3)
  have C8 := Lib.hid (lPut_at (hst8.still b8) (some ⟨w8.heap.size, 0, none⟩) 1 1 [4353] (reads_lit1 w8 4353) (lit1_i64 _ (by decide)) (by decide) (Nat.le_refl _) (fun _ ad e hb => by injection e with e; subst e; have := hst8.lt _ hb; exact Nat.lt_irrefl _ this))
  rw [a_8.1, a_8.2] at C8
  have HO18 := Lib.hid (own_only hown1 b8 (by simp))
  have HO28 := Lib.hid (own_only hown2 b8 (by simp))
  have HO38 := Lib.hid (own_only hown3 b8 (by simp))
  have ho8b := ho8.trans b8
  clear C7 hoP hst8 hown1 hown2 hown3 b7
  go_wp2_with fail
  refine C8.out.mono ?_
  rintro e w9 ⟨v5, rfl, hoP, hst9, _⟩
  have hown1 := own_turn HO18.out HN15.out hoP
  have hown2 := own_turn HO28.out HN26.out hoP
  have hown3 := own_turn HO38.out HN37.out hoP
  have ho9 : Only [] w w9 := ho8b.then_ hoP (fun b hb => .inr (hbl5 b hb))
  have D1 := Lib.hid (ints_own (d := 1) (w9.alloc (.cells #[.int .i64 4096] 3)) (hown1.alloc _) (reads_lit1 w9 4096) (by decide))
  have D2 := Lib.hid (fun W (h : Only [] w9 W) => ints_own (d := 2) (W.alloc (.cells #[.int .i64 4352, .int .i64 4608] 3)) ((own_only hown2 h (by simp)).alloc _) (reads_lit2 W 4352 4608) (by decide))
  have D3 := Lib.hid (fun W (h : Only [] w9 W) => Runs_eq (W.alloc (.cells #[.int .i64 16, .int .i64 1] 37)) v3 _ 1 [(16, 1)] (own_readsR ((own_only hown3 h (by simp)).alloc _) rfl) (readsR_lit1 W 16 1) (by decide))
  have D4 := Lib.hid (fun W (h : Only [] w9 W) => lSpans_st (hst9.still h))
  rw [a_9] at D4
  have D5 := Lib.hid (fun W v (h : W.ownsRow w9.heap.size 37 2 v 2 (cellsR [(17, 1), (18, 1)])) => Runs_eq (W.alloc (.cells #[.int .i64 17, .int .i64 1, .int .i64 18, .int .i64 1] 37)) v _ 2 [(17, 1), (18, 1)] (own_readsR (h.alloc _) rfl) (readsR_lit2 W 17 1 18 1) (by decide))
  clear C8 hoP hst9 hown1 hown2 hown3 b8
  have bA := (Only.refl [] w9).alloc (.cells #[.int .i64 4096] 3)
  go_wp2_with (first
    | (go_at_call 28; refine Grew.use D1.out (fun wa hoa => ?_); have oa := bA.trans hoa; have oa2 := oa.alloc (.cells #[.int .i64 4352, .int .i64 4608] 3))
    | (go_at_call 28; refine Grew.use (D2.out _ oa) (fun wb hob => ?_); have ob := oa2.trans hob; have ob2 := ob.alloc (.cells #[.int .i64 16, .int .i64 1] 37))
    | (go_at_call 30; refine Grew.use (D3.out _ ob) (fun wc hoc => ?_); have oc := ob2.trans hoc)
    | (go_at_call 16; refine (D4.out _ oc).mono ?_; rintro e wd ⟨v6, rfl, hod, hown6⟩; have od := oc.trans hod; have D6 := Lib.hid (D5.out wd v6 (own_mono hown6 oc.size)); clear hown6)
    | (go_at_call 30; refine Grew.use D6.out (fun we hoe => ?_)))
  go_ret
  exact ⟨rfl, ((ho9.trans od).alloc _).trans hoe⟩
end Go.Proofs.Ytlmjelcnldlagaa

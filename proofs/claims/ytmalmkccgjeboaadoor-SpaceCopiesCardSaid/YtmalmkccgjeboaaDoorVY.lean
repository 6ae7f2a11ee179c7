/- The walk of SpaceCopies. -/
import Derived.Test.YtmalmkccgjeboaaDoorVT
import Derived.Test.YtmalmkccgjeboaaDoorVO
set_option linter.unusedVariables false
set_option linter.unusedSimpArgs false
namespace Go.Proofs.YtmalmkccgjeboaaDoor
open Go.RowKit

theorem SpM.puts_st (m : SpM) (j : Int) (f : Nat → Int) (k : Nat) (i : Int) (h : m.st i ≠ 0) : (m.puts j f k).st i ≠ 0 := by
  induction k with
  | zero => exact h
  | succ k ih =>
    show (if i = (j + k) / 32 then (2 : Int) else (m.puts j f k).st i) ≠ 0
    split
    · decide
    · exact ih
theorem SpM.puts_acc {m : SpM} {to words : Int} (h : m.cnt to words = 0) (f : Nat → Int) {k : Nat} (hk : (k : Int) < words) : (m.puts (to / 8) f k).acc (to + k * 8) 1 = 0 ∧ (m.puts (to / 8) f k).writeM (to + k * 8) (f k) = m.puts (to / 8) f (k + 1) := by
  obtain ⟨w1, w2, w3⟩ := SpM.cnt_ok h
  obtain ⟨q1, q2, q3, q4⟩ := w3 (by omega)
  have e8 : (to + k * 8) / 8 = to / 8 + k := by omega
  have hK : Keeps (m.puts (to / 8) f k) (to + k * 8) ((m.puts (to / 8) f k).h ((to + k * 8) / 8)) := by
    refine ⟨by omega, by omega, by rw [SpM.puts_n]; omega, ?_, rfl⟩
    refine SpM.puts_st _ _ _ _ _ ?_
    have := q4 (to / 8 + k) (by omega) (by omega)
    rwa [show (to / 8 + k) / 32 = (to + k * 8) / 256 by omega] at this
  refine ⟨hK.acc, ?_⟩
  unfold SpM.writeM
  rw [if_pos hK.acc, e8]
  rfl

set_option maxRecDepth 100000 in
set_option maxHeartbeats 4000000 in
theorem SpaceCopies_walk (w : World) (hE : Env w) (pages : Int) (hp : 0 ≤ pages ∧ pages ≤ 255) (A : Option Addr) (n c : Nat) (l : List Ac) (hr : ReadsA w A n l) (hn : n ≤ 9223372036854775807) (to : Int) (i1 : I64 to) (src : Int) (i2 : I64 src) (words : Int) (i3 : I64 words) (v : Int) (i4 : I64 v) (fill : Bool) :
    Grew Tryd.prog 6 #[.int .u8 pages, .slice A n c, .int .i64 to, .int .i64 src, .int .i64 words, .int .i64 v, .bool fill] w (.bool true) := by
  have HE := Lib.hid hE
  have CG := Lib.hid (fun W => great_any W A n c hn)
  have CM := Lib.hid (lmade_any hE pages hp A n c l hr hn)
  clear hr hE
  by_cases hg : 40 < n
  · rw [decide_eq_true hg] at CG
    go_enter Tryd.func6, Tryd.ntmps6
    go_wp2_with (first | (go_at_call 13; with_reducible refine Still.use (CG.out _) ?_) | (go_at_call 14; with_reducible refine Grew.use (alive_any _ HE.out) (fun w5 ho5 => ?_)))
    go_ret
    exact ⟨rfl, ho5⟩
  rw [decide_eq_false hg] at CG
  go_enter Tryd.func6, Tryd.ntmps6
  go_wp2_with (first | (go_at_call 13; with_reducible refine Still.use (CG.out _) ?_))
  refine CM.out.mono ?_
  rintro e w1 ⟨ho1, p, L, rfl, hs, hL⟩
  generalize (SpM.fresh (pages % 64 + 1).toNat).acts l n = m at *
  go_wp2_with fail
  refine (Clone_any hs).mono ?_
  rintro e w2 ⟨ho2, p', T, rfl, ht, hT⟩
  have hs2 := hs.still ho2
  have ho12 := ho1.trans ho2
  have HE2 := HE.out.only ho12 (by simp)
  have dLT : ∀ b ∈ L, b ∉ T := fun b hb hb2 => by have := hT b hb2; have := hs.lt b hb; omega
  have hTw : ∀ b ∈ T, w.heap.size ≤ b := fun b hb => by have := hT b hb; have := ho1.size; omega
  clear CM hs
  go_wp2_with fail
  refine (Words_any HE2 hs2 src words i2).mono ?_
  rintro e w3 ⟨ho3, hW1, hW2⟩
  have hs3 := hs2.still ho3
  have ht3 := ht.still ho3
  have ho13 := ho12.trans ho3
  have hE3 := HE.out.only ho13 (by simp)
  have dTL : ∀ b ∈ T, b ∉ L := fun b hb hb2 => dLT b hb2 hb
  have hsz2 := ht.lt
  by_cases hsrc : m.cnt src words = 0
  · obtain ⟨B, rfl, g, rfl, hg1, hrow⟩ := hW1 hsrc
    clear hW1 hW2
    obtain ⟨nw, hnw⟩ : ∃ nw : Nat, words = nw := ⟨words.toNat, by have := SpM.cnt_ok hsrc; omega⟩
    subst hnw
    rw [Int.toNat_natCast] at hrow ⊢
    have hgT : g ∉ T := fun hb => by have := hsz2 _ hb; omega
    cases fill
    · have HH1 := Lib.hid hs3.good.h1
      go_wp2_with fail
      refine (Copy_any hE3 hs3 to src (nw : Int) i1 i2).mono ?_
      rintro e w4 ⟨rfl, hTn⟩
      have hrow4 := hrow.only hTn.1 (fun hb => by have := hs2.lt _ hb; omega)
      have ht4 := ht3.only hTn.1 dTL
      have hTn1 := hTn.1
      obtain ⟨_, L4, hs4, hL4'⟩ := hTn
      have ho4 : Only [] w w4 := ho13.then_ hTn1 (fun b hb => .inr (hL b hb))
      have ht3l := ht3.lt
      have hsz3 := ho13.size
      have hL4 : ∀ b ∈ L4, w.heap.size ≤ b := fun b hb => by
        rcases hL4' b hb with h | h
        · exact hL b h
        · omega
      have dTL4 : ∀ b ∈ T, b ∉ L4 := fun b hb hb2 => by
        rcases hL4' b hb2 with h | h
        · exact dTL b hb h
        · have := ht3l b hb; omega
      by_cases hto : m.copyE to src (nw : Int) = 0
      · rw [hto]
        have hct : m.cnt to (nw : Int) = 0 := by
          unfold SpM.copyE at hto
          split at hto
          · assumption
          · exact hto
        have hfm : m.copyM to src (nw : Int) = m.puts (to / 8) (fun k => m.h (src / 8 + k)) nw := if_pos hto
        rw [hfm] at hs4
        have HS4 := Lib.hid hs4
        have HT4 := Lib.hid ht4
        have HK4 := Lib.hid dTL4
        have HLT4 := Lib.hid (show ∀ b ∈ L4, b ∉ T from fun b hb hb2 => dTL4 b hb2 hb)
        have HLL := Lib.hid hL4
        have HTW := Lib.hid hTw
        have HCN := Lib.hid hct
        have hb8 : 1 ≤ nw → 0 ≤ to ∧ to ≤ 300000 := fun h1 => by
          obtain ⟨_, _, q⟩ := SpM.cnt_ok hct
          obtain ⟨q1, q2, q3, _⟩ := q (by omega)
          have := hs4.good.n2
          rw [SpM.puts_n] at this
          omega
        have hnw32 : nw ≤ 32768 := by have := SpM.cnt_ok hct; omega
        clear hs4 ht4 dTL4 hs3 ht3 hL hTw hs2 ht hT
        go_wp2_with fail
        go_loopw [20] (fun i wr => ∃ k : Nat, k ≤ nw ∧ i = .int .i64 k ∧ Only [] w wr ∧ SpaceAt wr p L4 (m.puts (to / 8) (fun k => m.h (src / 8 + k)) nw) ∧ ∃ K, SpaceAt wr p' K (m.puts (to / 8) (fun k => m.h (src / 8 + k)) k) ∧ (∀ b ∈ K, w.heap.size ≤ b) ∧ (∀ b ∈ L4, b ∉ K) ∧ Row wr g nw (fun k => .int .i64 (m.h (src / 8 + k))) ∧ g ∉ K) (fun i _ => nw - (intOf i).toNat)
        case atStart => exact ⟨0, Nat.zero_le _, rfl, ho4, HS4.out, T, HT4.out, HTW.out, HLT4.out, hrow4, hgT⟩
        case round =>
          obtain ⟨k, hk, rfl, ho, hsk, K, htk, hK, hLK, hrw, hgK⟩ := hrel
          by_cases hlt : k < nw
          · have d1 : decide ((k : Int) < nw) = true := decide_eq_true (by omega)
            have d2 : decide ((nw : Int) ≤ k) = false := decide_eq_false (by omega)
            have d2' : decide (nw ≤ k) = false := decide_eq_false (by omega)
            obtain ⟨b1, b2⟩ := hb8 (by omega)
            obtain ⟨a1, a2⟩ := SpM.puts_acc HCN.out (fun k => m.h (src / 8 + k)) (k := k) (by omega)
            have CW := Write_any (HE.out.only ho (by simp)) htk (to + (k : Int) * 8) (m.h (src / 8 + k)) (by unfold I64; omega) (HH1.out _)
            rw [a1] at CW
            have HA2 := Lib.hid (show (m.puts (to / 8) (fun k => m.h (src / 8 + k)) k).writeM (to + (k : Int) * 8) (m.h (src / 8 + k)) = m.puts (to / 8) (fun k => m.h (src / 8 + k)) (k + 1) from a2)
            have HCW := Lib.hid CW
            have y0 := hrw.cell hlt
            have hlk := hsk.lt
            have hszk := ho.size
            have HSK := Lib.hid hsk
            clear CW a1 a2 htk hsk
            go_wp2_with fail
            refine HCW.out.mono ?_
            rintro e w7 ⟨rfl, hTn⟩
            have hs7 := HSK.out.only hTn.1 hLK
            have ho7 : Only [] w w7 := ho.then_ hTn.1 (fun b hb => .inr (hK b hb))
            have hrw7 := hrw.only hTn.1 (fun hb => hgK hb)
            obtain ⟨_, K2, ht7, hK2⟩ := hTn
            rw [HA2.out] at ht7
            go_wp2_with fail
            go_roundw
            case rel =>
              refine ⟨k + 1, by omega, by go_num, ho7, hs7, K2, ht7, fun b hb => ?_, fun b hb hb2 => ?_, hrw7, fun hb => ?_⟩
              · rcases hK2 b hb with h | h
                · exact hK b h
                · omega
              · rcases hK2 b hb2 with h | h
                · exact hLK b hb h
                · have := hlk b hb; omega
              · rcases hK2 g hb with h | h
                · exact hgK h
                · have := hrw.lt; omega
            case measure => simp [intOf]; omega
          · have e : k = nw := by omega
            subst e
            have d1 : decide ((k : Int) < k) = false := decide_eq_false (by omega)
            have CA := Lib.hid (alike_any (HE.out.only ho (by simp)) hsk htk)
            go_wp2_with (first | (go_at_call 30; with_reducible refine Grew.use CA.out (fun w5 ho5 => ?_)) | (go_at_call 14; with_reducible refine Grew.use (alive_any _ (HE.out.only (ho.trans ho5) (by simp))) (fun w6 ho6 => ?_)))
            go_ret
            exact ⟨rfl, ho.trans (ho5.trans ho6)⟩
      · have hfm : m.copyM to src (nw : Int) = m := if_neg hto
        rw [hfm] at hs4
        have d0 : (m.copyE to src (nw : Int) == 0) = false := beq_eq_false_iff_ne.2 hto
        have d0' : (m.copyE to src (nw : Int) != 0) = true := bne_iff_ne.2 hto
        generalize m.copyE to src (nw : Int) = ee at *
        have CA := Lib.hid (alike_any (HE.out.only ho4 (by simp)) hs4 ht4)
        go_wp2_with (first | (go_at_call 30; with_reducible refine Grew.use CA.out (fun w5 ho5 => ?_)) | (go_at_call 14; with_reducible refine Grew.use (alive_any _ (HE.out.only (ho4.trans ho5) (by simp))) (fun w6 ho6 => ?_)))
        go_ret
        exact ⟨rfl, ho4.trans (ho5.trans ho6)⟩
    · go_wp2_with fail
      refine (Fill_any hE3 hs3 to (nw : Int) v i1 i4).mono ?_
      rintro e w4 ⟨rfl, hTn⟩
      have ht4 := ht3.only hTn.1 dTL
      have hTn1 := hTn.1
      obtain ⟨_, L4, hs4, hL4'⟩ := hTn
      have ho4 : Only [] w w4 := ho13.then_ hTn1 (fun b hb => .inr (hL b hb))
      have ht3l := ht3.lt
      have hsz3 := ho13.size
      have hL4 : ∀ b ∈ L4, w.heap.size ≤ b := fun b hb => by
        rcases hL4' b hb with h | h
        · exact hL b h
        · omega
      have dTL4 : ∀ b ∈ T, b ∉ L4 := fun b hb hb2 => by
        rcases hL4' b hb2 with h | h
        · exact dTL b hb h
        · have := ht3l b hb; omega
      by_cases hto : m.cnt to (nw : Int) = 0
      · rw [hto]
        have hfm : m.fillM to (nw : Int) v = m.puts (to / 8) (fun _ => v) nw := if_pos hto
        rw [hfm] at hs4
        have HS4 := Lib.hid hs4
        have HT4 := Lib.hid ht4
        have HK4 := Lib.hid dTL4
        have HLT4 := Lib.hid (show ∀ b ∈ L4, b ∉ T from fun b hb hb2 => dTL4 b hb2 hb)
        have HLL := Lib.hid hL4
        have HTW := Lib.hid hTw
        have HCN := Lib.hid hto
        have hb8 : 1 ≤ nw → 0 ≤ to ∧ to ≤ 300000 := fun h1 => by
          obtain ⟨_, _, q⟩ := SpM.cnt_ok hto
          obtain ⟨q1, q2, q3, _⟩ := q (by omega)
          have := hs4.good.n2
          rw [SpM.puts_n] at this
          omega
        have hnw32 : nw ≤ 32768 := by have := SpM.cnt_ok hto; omega
        clear hs4 ht4 dTL4 hs3 ht3 hL hTw hs2 ht hT
        go_wp2_with fail
        go_loopw [20] (fun i wr => ∃ k : Nat, k ≤ nw ∧ i = .int .i64 k ∧ Only [] w wr ∧ SpaceAt wr p L4 (m.puts (to / 8) (fun _ => v) nw) ∧ ∃ K, SpaceAt wr p' K (m.puts (to / 8) (fun _ => v) k) ∧ (∀ b ∈ K, w.heap.size ≤ b) ∧ (∀ b ∈ L4, b ∉ K)) (fun i _ => nw - (intOf i).toNat)
        case atStart => exact ⟨0, Nat.zero_le _, rfl, ho4, HS4.out, T, HT4.out, HTW.out, HLT4.out⟩
        case round =>
          obtain ⟨k, hk, rfl, ho, hsk, K, htk, hK, hLK⟩ := hrel
          by_cases hlt : k < nw
          · have d1 : decide ((k : Int) < nw) = true := decide_eq_true (by omega)
            have d2 : decide ((nw : Int) ≤ k) = false := decide_eq_false (by omega)
            have d2' : decide (nw ≤ k) = false := decide_eq_false (by omega)
            obtain ⟨b1, b2⟩ := hb8 (by omega)
            obtain ⟨a1, a2⟩ := SpM.puts_acc HCN.out (fun _ => v) (k := k) (by omega)
            have CW := Write_any (HE.out.only ho (by simp)) htk (to + (k : Int) * 8) (v) (by unfold I64; omega) i4
            rw [a1] at CW
            have HA2 := Lib.hid (show (m.puts (to / 8) (fun _ => v) k).writeM (to + (k : Int) * 8) (v) = m.puts (to / 8) (fun _ => v) (k + 1) from a2)
            have HCW := Lib.hid CW
            have hlk := hsk.lt
            have hszk := ho.size
            have HSK := Lib.hid hsk
            clear CW a1 a2 htk hsk
            go_wp2_with fail
            refine HCW.out.mono ?_
            rintro e w7 ⟨rfl, hTn⟩
            have hs7 := HSK.out.only hTn.1 hLK
            have ho7 : Only [] w w7 := ho.then_ hTn.1 (fun b hb => .inr (hK b hb))
            obtain ⟨_, K2, ht7, hK2⟩ := hTn
            rw [HA2.out] at ht7
            go_wp2_with fail
            go_roundw
            case rel =>
              refine ⟨k + 1, by omega, by go_num, ho7, hs7, K2, ht7, fun b hb => ?_, fun b hb hb2 => ?_⟩
              · rcases hK2 b hb with h | h
                · exact hK b h
                · omega
              · rcases hK2 b hb2 with h | h
                · exact hLK b hb h
                · have := hlk b hb; omega
            case measure => simp [intOf]; omega
          · have e : k = nw := by omega
            subst e
            have d1 : decide ((k : Int) < k) = false := decide_eq_false (by omega)
            have CA := Lib.hid (alike_any (HE.out.only ho (by simp)) hsk htk)
            go_wp2_with (first | (go_at_call 30; with_reducible refine Grew.use CA.out (fun w5 ho5 => ?_)) | (go_at_call 14; with_reducible refine Grew.use (alive_any _ (HE.out.only (ho.trans ho5) (by simp))) (fun w6 ho6 => ?_)))
            go_ret
            exact ⟨rfl, ho.trans (ho5.trans ho6)⟩
      · have hfm : m.fillM to (nw : Int) v = m := if_neg hto
        rw [hfm] at hs4
        have d0 : (m.cnt to (nw : Int) == 0) = false := beq_eq_false_iff_ne.2 hto
        have d0' : (m.cnt to (nw : Int) != 0) = true := bne_iff_ne.2 hto
        generalize m.cnt to (nw : Int) = ee at *
        have CA := Lib.hid (alike_any (HE.out.only ho4 (by simp)) hs4 ht4)
        go_wp2_with (first | (go_at_call 30; with_reducible refine Grew.use CA.out (fun w5 ho5 => ?_)) | (go_at_call 14; with_reducible refine Grew.use (alive_any _ (HE.out.only (ho4.trans ho5) (by simp))) (fun w6 ho6 => ?_)))
        go_ret
        exact ⟨rfl, ho4.trans (ho5.trans ho6)⟩
  · rw [hW2 hsrc]
    clear hW1 hW2
    cases fill
    · have d3 : (m.cnt src words == 0) = false := beq_eq_false_iff_ne.2 hsrc
      have d3' : (m.cnt src words != 0) = true := bne_iff_ne.2 hsrc
      go_wp2_with fail
      refine (Copy_any hE3 hs3 to src words i1 i2).mono ?_
      rintro e w4 ⟨rfl, hTn⟩
      have ht4 := ht3.only hTn.1 dTL
      have hTn1 := hTn.1
      obtain ⟨_, L4, hs4, hL4'⟩ := hTn
      have ho4 : Only [] w w4 := ho13.then_ hTn1 (fun b hb => .inr (hL b hb))
      have ht3l := ht3.lt
      have hsz3 := ho13.size
      have hL4 : ∀ b ∈ L4, w.heap.size ≤ b := fun b hb => by
        rcases hL4' b hb with h | h
        · exact hL b h
        · omega
      have dTL4 : ∀ b ∈ T, b ∉ L4 := fun b hb hb2 => by
        rcases hL4' b hb2 with h | h
        · exact dTL b hb h
        · have := ht3l b hb; omega
      have hto : m.copyE to src words ≠ 0 := by
        unfold SpM.copyE
        split
        · exact hsrc
        · assumption
      have hfm : m.copyM to src words = m := if_neg hto
      rw [hfm] at hs4
      have d0 : (m.copyE to src words == 0) = false := beq_eq_false_iff_ne.2 hto
      have d0' : (m.copyE to src words != 0) = true := bne_iff_ne.2 hto
      generalize m.copyE to src words = ee at *
      generalize m.cnt src words = es at *
      have CA := Lib.hid (alike_any (HE.out.only ho4 (by simp)) hs4 ht4)
      go_wp2_with (first | (go_at_call 30; with_reducible refine Grew.use CA.out (fun w5 ho5 => ?_)) | (go_at_call 14; with_reducible refine Grew.use (alive_any _ (HE.out.only (ho4.trans ho5) (by simp))) (fun w6 ho6 => ?_)))
      go_ret
      exact ⟨rfl, ho4.trans (ho5.trans ho6)⟩
    · go_wp2_with fail
      refine (Fill_any hE3 hs3 to words v i1 i4).mono ?_
      rintro e w4 ⟨rfl, hTn⟩
      have ht4 := ht3.only hTn.1 dTL
      have hTn1 := hTn.1
      obtain ⟨_, L4, hs4, hL4'⟩ := hTn
      have ho4 : Only [] w w4 := ho13.then_ hTn1 (fun b hb => .inr (hL b hb))
      have ht3l := ht3.lt
      have hsz3 := ho13.size
      have hL4 : ∀ b ∈ L4, w.heap.size ≤ b := fun b hb => by
        rcases hL4' b hb with h | h
        · exact hL b h
        · omega
      have dTL4 : ∀ b ∈ T, b ∉ L4 := fun b hb hb2 => by
        rcases hL4' b hb2 with h | h
        · exact dTL b hb h
        · have := ht3l b hb; omega
      by_cases hto : m.cnt to words = 0
      · rw [hto]
        have hfm : m.fillM to words v = m.puts (to / 8) (fun _ => v) words.toNat := if_pos hto
        rw [hfm] at hs4
        obtain ⟨nw, hnw⟩ : ∃ nw : Nat, words = nw := ⟨words.toNat, by have := SpM.cnt_ok hto; omega⟩
        subst hnw
        rw [Int.toNat_natCast] at hs4
        have HS4 := Lib.hid hs4
        have HT4 := Lib.hid ht4
        have HK4 := Lib.hid dTL4
        have HLT4 := Lib.hid (show ∀ b ∈ L4, b ∉ T from fun b hb hb2 => dTL4 b hb2 hb)
        have HLL := Lib.hid hL4
        have HTW := Lib.hid hTw
        have HCN := Lib.hid hto
        have hb8 : 1 ≤ nw → 0 ≤ to ∧ to ≤ 300000 := fun h1 => by
          obtain ⟨_, _, q⟩ := SpM.cnt_ok hto
          obtain ⟨q1, q2, q3, _⟩ := q (by omega)
          have := hs4.good.n2
          rw [SpM.puts_n] at this
          omega
        have hnw32 : nw ≤ 32768 := by have := SpM.cnt_ok hto; omega
        clear hs4 ht4 dTL4 hs3 ht3 hL hTw hs2 ht hT
        go_wp2_with fail
        go_loopw [20] (fun i wr => ∃ k : Nat, k ≤ nw ∧ i = .int .i64 k ∧ Only [] w wr ∧ SpaceAt wr p L4 (m.puts (to / 8) (fun _ => v) nw) ∧ ∃ K, SpaceAt wr p' K (m.puts (to / 8) (fun _ => v) k) ∧ (∀ b ∈ K, w.heap.size ≤ b) ∧ (∀ b ∈ L4, b ∉ K)) (fun i _ => nw - (intOf i).toNat)
        case atStart => exact ⟨0, Nat.zero_le _, rfl, ho4, HS4.out, T, HT4.out, HTW.out, HLT4.out⟩
        case round =>
          obtain ⟨k, hk, rfl, ho, hsk, K, htk, hK, hLK⟩ := hrel
          by_cases hlt : k < nw
          · have d1 : decide ((k : Int) < nw) = true := decide_eq_true (by omega)
            have d2 : decide ((nw : Int) ≤ k) = false := decide_eq_false (by omega)
            have d2' : decide (nw ≤ k) = false := decide_eq_false (by omega)
            obtain ⟨b1, b2⟩ := hb8 (by omega)
            obtain ⟨a1, a2⟩ := SpM.puts_acc HCN.out (fun _ => v) (k := k) (by omega)
            have CW := Write_any (HE.out.only ho (by simp)) htk (to + (k : Int) * 8) (v) (by unfold I64; omega) i4
            rw [a1] at CW
            have HA2 := Lib.hid (show (m.puts (to / 8) (fun _ => v) k).writeM (to + (k : Int) * 8) (v) = m.puts (to / 8) (fun _ => v) (k + 1) from a2)
            have HCW := Lib.hid CW
            have hlk := hsk.lt
            have hszk := ho.size
            have HSK := Lib.hid hsk
            clear CW a1 a2 htk hsk
            go_wp2_with fail
            refine HCW.out.mono ?_
            rintro e w7 ⟨rfl, hTn⟩
            have hs7 := HSK.out.only hTn.1 hLK
            have ho7 : Only [] w w7 := ho.then_ hTn.1 (fun b hb => .inr (hK b hb))
            obtain ⟨_, K2, ht7, hK2⟩ := hTn
            rw [HA2.out] at ht7
            go_wp2_with fail
            go_roundw
            case rel =>
              refine ⟨k + 1, by omega, by go_num, ho7, hs7, K2, ht7, fun b hb => ?_, fun b hb hb2 => ?_⟩
              · rcases hK2 b hb with h | h
                · exact hK b h
                · omega
              · rcases hK2 b hb2 with h | h
                · exact hLK b hb h
                · have := hlk b hb; omega
            case measure => simp [intOf]; omega
          · have e : k = nw := by omega
            subst e
            have d1 : decide ((k : Int) < k) = false := decide_eq_false (by omega)
            have CA := Lib.hid (alike_any (HE.out.only ho (by simp)) hsk htk)
            go_wp2_with (first | (go_at_call 30; with_reducible refine Grew.use CA.out (fun w5 ho5 => ?_)) | (go_at_call 14; with_reducible refine Grew.use (alive_any _ (HE.out.only (ho.trans ho5) (by simp))) (fun w6 ho6 => ?_)))
            go_ret
            exact ⟨rfl, ho.trans (ho5.trans ho6)⟩
      · have hfm : m.fillM to words v = m := if_neg hto
        rw [hfm] at hs4
        have d0 : (m.cnt to words == 0) = false := beq_eq_false_iff_ne.2 hto
        have d0' : (m.cnt to words != 0) = true := bne_iff_ne.2 hto
        generalize m.cnt to words = ee at *
        have CA := Lib.hid (alike_any (HE.out.only ho4 (by simp)) hs4 ht4)
        go_wp2_with (first | (go_at_call 30; with_reducible refine Grew.use CA.out (fun w5 ho5 => ?_)) | (go_at_call 14; with_reducible refine Grew.use (alive_any _ (HE.out.only (ho4.trans ho5) (by simp))) (fun w6 ho6 => ?_)))
        go_ret
        exact ⟨rfl, ho4.trans (ho5.trans ho6)⟩
end Go.Proofs.YtmalmkccgjeboaaDoor

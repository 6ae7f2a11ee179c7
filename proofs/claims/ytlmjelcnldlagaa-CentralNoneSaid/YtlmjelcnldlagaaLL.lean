/- slices.DeleteFunc with Sweep's closure. -/
import Derived.Test.YtlmjelcnldlagaaLK
set_option linter.unusedVariables false
set_option linter.unusedSimpArgs false
namespace Go.Proofs.Ytlmjelcnldlagaa
open Go.RowKit

theorem run_clear3 (W : World) (g o n dc : Nat) (cur : Array Value) (t : TypeId) (hn : 0 < n) (hg : W.heap[g]? = some (.cells cur t (0, 0))) (hfit : o + n * 3 ≤ cur.size) :
    ∃ X : Array Value, (∀ ty, (Builtin.clear_ #[66] ty #[.slice (some ⟨g, o, none⟩) n dc]).run Try.prog W = .ok (.tuple #[]) (W.setRow g X)) ∧ X.size = cur.size ∧ ∀ j, j < o → X.toList[j]? = cur.toList[j]? := by
  obtain ⟨i, hi, hz, hs, hb⟩ := info_parts info_ent
  have hzl : ((Builtin.zeroCells (Value.agg #[.int .i64 0, .int .i64 0, .pointer none]).cells n).toList).length = n * 3 := by simp [Builtin.zeroCells, Value.cells]
  have h1 : ∀ v ∈ (Builtin.zeroCells (Value.agg #[.int .i64 0, .int .i64 0, .pointer none]).cells n).toList, v.oneCell' = true := by
    intro v hv
    simp [Builtin.zeroCells, Value.cells] at hv
    obtain ⟨a, ha, rfl⟩ := hv
    rcases (by omega : a % 3 = 0 ∨ a % 3 = 1 ∨ a % 3 = 2) with h | h | h <;> simp [h, Value.oneCell']
  have hst := run_storeCells_at Try.prog g o t (Builtin.zeroCells (Value.agg #[.int .i64 0, .int .i64 0, .pointer none]).cells n).toList 0 cur W hg (by rw [hzl]; omega) h1
  simp only [Nat.add_zero] at hst
  obtain ⟨m, rfl⟩ : ∃ m, n = m + 1 := ⟨n - 1, by omega⟩
  refine ⟨(cur.toList.take o ++ (Builtin.zeroCells (Value.agg #[.int .i64 0, .int .i64 0, .pointer none]).cells (m + 1)).toList ++ cur.toList.drop (o + ((Builtin.zeroCells (Value.agg #[.int .i64 0, .int .i64 0, .pointer none]).cells (m + 1)).toList).length)).toArray, fun ty => by simp [Builtin.clear_, run_underlying Try.underlying66, zeroValue, typeInfo, hi, hz, hst], ?_, fun j hj => ?_⟩
  · simp [hzl]; omega
  · simp only [List.toList_toArray]
    rw [splice_at _ _ _ (by rw [hzl, Array.length_toList]; omega), if_neg (by omega)]

/-- Three cells in a row are written. -/
theorem set3_at (cur : Array Value) (i : Nat) (x y z : Value) (h : i * 3 + 3 ≤ cur.size) (t : Nat) : (((cur.setIfInBounds (i * 3) x).setIfInBounds (i * 3 + 1) y).setIfInBounds (i * 3 + 2) z).toList[t]? = if i * 3 ≤ t ∧ t < i * 3 + 3 then [x, y, z][t - i * 3]? else cur.toList[t]? := by
  simp only [Array.toList_setIfInBounds, List.getElem?_set, List.length_set, Array.length_toList]
  by_cases h1 : i * 3 ≤ t ∧ t < i * 3 + 3
  · rw [if_pos h1]
    rcases (by omega : t = i * 3 ∨ t = i * 3 + 1 ∨ t = i * 3 + 2) with h2 | h2 | h2
    · subst h2
      rw [if_neg (by omega), if_neg (by omega), if_pos rfl, if_pos (by omega)]
      simp
    · subst h2
      rw [if_neg (by omega), if_pos rfl, if_pos (by omega)]
      simp
    · subst h2
      rw [if_pos rfl, if_pos (by omega)]
      simp
  · rw [if_neg h1, if_neg (by omega), if_neg (by omega), if_neg (by omega)]

/-- What the rounds leave in the row. -/
structure KeepInv (w : World) (g cp : Nat) (L : List En) (j : Nat) (cur : Array Value) : Prop where
  blk : Blk w g 75 cur
  size : cur.size = cp * 3
  low : ∀ t, t < (keptE L j).length * 3 → cur.toList[t]? = (entCells (keptE L j))[t]?
  high : ∀ t, j * 3 ≤ t → t < L.length * 3 → cur.toList[t]? = (entCells L)[t]?
theorem KeepInv.skip {w w' : World} {g cp : Nat} {L : List En} {j : Nat} {cur : Array Value} (h : KeepInv w g cp L j cur) (hb : Blk w' g 75 cur) (h0 : (eAt L j).s.many = 0) : KeepInv w' g cp L (j + 1) cur := by
  have e : keptE L (j + 1) = keptE L j := by rw [keptE, if_pos h0]
  exact ⟨hb, h.size, by rw [e]; exact h.low, fun t h1 h2 => h.high t (by omega) h2⟩
theorem KeepInv.keep {w w' : World} {g cp : Nat} {L : List En} {j : Nat} {cur : Array Value} (h : KeepInv w g cp L j cur) (hj : j < L.length) (hcp : L.length ≤ cp) (hb : Blk w' g 75 (((cur.setIfInBounds ((keptE L j).length * 3) (.int .i64 (eAt L j).s.many)).setIfInBounds ((keptE L j).length * 3 + 1) (.int .i64 (eAt L j).s.start)).setIfInBounds ((keptE L j).length * 3 + 2) (.pointer (some ⟨(eAt L j).p, 0, none⟩)))) (h0 : (eAt L j).s.many ≠ 0) :
    KeepInv w' g cp L (j + 1) (((cur.setIfInBounds ((keptE L j).length * 3) (.int .i64 (eAt L j).s.many)).setIfInBounds ((keptE L j).length * 3 + 1) (.int .i64 (eAt L j).s.start)).setIfInBounds ((keptE L j).length * 3 + 2) (.pointer (some ⟨(eAt L j).p, 0, none⟩))) := by
  have e : keptE L (j + 1) = keptE L j ++ [eAt L j] := by rw [keptE, if_neg h0]
  have hl := keptE_len L j
  have hs := h.size
  refine ⟨hb, by simpa using hs, fun t ht => ?_, fun t h1 h2 => ?_⟩
  · rw [e, List.length_append] at ht
    simp at ht
    rw [set3_at _ _ _ _ _ (by omega), e, entCells_append]
    by_cases h1 : (keptE L j).length * 3 ≤ t
    · rw [if_pos (by omega), List.getElem?_append_right (by rw [entCells_len]; exact h1), entCells_len]
      rfl
    · rw [if_neg (by omega), List.getElem?_append_left (by rw [entCells_len]; omega)]
      exact h.low t (by omega)
  · rw [set3_at _ _ _ _ _ (by omega), if_neg (by omega)]
    exact h.high t (by omega) h2
/-- The cells of entry j, not yet reached. -/
theorem KeepInv.cells {w : World} {g cp : Nat} {L : List En} {j : Nat} {cur : Array Value} (h : KeepInv w g cp L j cur) (hj : j < L.length) : w.cell? ⟨g, j * 3, none⟩ = some (.int .i64 (eAt L j).s.many) ∧ w.cell? ⟨g, j * 3 + 1, none⟩ = some (.int .i64 (eAt L j).s.start) ∧ w.cell? ⟨g, j * 3 + 2, none⟩ = some (.pointer (some ⟨(eAt L j).p, 0, none⟩)) := by
  obtain ⟨a1, a2, a3⟩ := entCells_at L j hj
  rw [← h.high _ (by omega) (by omega), Array.getElem?_toList] at a1 a2 a3
  exact ⟨h.blk.cell_ _ a1, h.blk.cell_ _ a2, h.blk.cell_ _ a3⟩

theorem OutAt.write {w0 w w' : World} {l : List Nat} {o : Nat} {rs : List (Int × Int)} (h : OutAt w0 w l o rs) (ho : Only l w w') (hl : ∀ b ∈ l, b < w0.heap.size) : OutAt w0 w' l o rs := by
  obtain ⟨v, h1, h2, h3⟩ := h.ex
  exact ⟨h.only.trans ho, h.ge, Nat.lt_of_lt_of_le h.lt ho.size, h.no, v, h1.only ho h.no, own_only h2 ho (fun b hb hbl => by
    have := own_base h2 b hb
    have := hl b hbl
    omega), h3⟩

set_option maxRecDepth 100000 in
set_option maxHeartbeats 8000000 in
theorem ldelete_any {w0 w : World} {o P : Nat} {A : Value} {c : Cl} {L : List En} (h : ListAt w0 P A c L) (hO : OutAt w0 w [] o []) :
    Calls Try.prog 43 #[A, .func (.func 44) #[] #[.pointer (some ⟨o, 0, none⟩)]] w fun e w' =>
      ∃ A', e = .returned A' ∧ A'.ownBlock = A.ownBlock ∧ w'.ownsRow 0 75 3 A' (keptE L L.length).length (entCells (keptE L L.length)) ∧ OutAt w0 w' A.ownBlock.toList o (zeroTo (spans L) L.length) := by
  have CI := Lib.hid (lindex_any h hO)
  obtain ⟨ad, cp, rfl⟩ := h.slice
  have HA := Lib.hid h
  have hn := h.len
  have hoN : o ∉ (Value.ownBlock (.slice ad L.length cp)).toList := fun hb => by
    have := own_lt h.row o (Option.mem_toList.1 hb)
    have := hO.ge
    omega
  have HON := Lib.hid hoN
  obtain ⟨N, hN⟩ : ∃ N, N = L.length := ⟨_, rfl⟩
  rw [← hN] at hn CI
  have HN := Lib.hid hN
  clear h hO hoN hN
  go_enter Try.func43, Try.ntmps43
  rw [← HN.out]
  go_wp2_with fail
  refine CI.out.mono ?_
  rintro e w1 (⟨rfl, hall, hO1⟩ | ⟨k, hk, rfl, h0, hall, hO1⟩)
  · have HALL := Lib.hid hall
    clear hall
    go_wp2_with fail
    go_ret
    have e1 : keptE L L.length = L := by rw [keptE_all _ (Nat.le_refl _) (fun j hj => HALL.out j (by rw [HN.out]; exact hj)), List.take_of_length_le (Nat.le_refl _)]
    have e2 : zeroTo (spans L) L.length = [] := zeroTo_nil _ (fun j hj => by rw [sAt_spans]; exact HALL.out j (by rw [HN.out]; exact hj))
    refine ⟨_, rfl, rfl, ?_, ?_⟩
    · rw [HN.out, e1]
      exact (HA.out.still hO1.only).row
    · rw [HN.out, e2]
      exact hO1.mono (by simp) HON.out
  · obtain ⟨g, cp', e1⟩ := HA.out.form (by rw [← HN.out]; omega)
    injection e1 with e1 _ e3
    subst e1 e3
    have hge := hO1.ge
    have hgl : g < w0.heap.size := own_lt HA.out.row g rfl
    have hkept : keptE L (k + 1) = L.take k := by rw [keptE, if_pos h0]; exact keptE_all k (by rw [← HN.out]; omega) hall
    obtain ⟨cur0, hK0, hcp1, hcp2⟩ : ∃ cur, KeepInv w1 g cp L (k + 1) cur ∧ N ≤ cp ∧ cp ≤ maxLen := by
      rcases (HA.out.still hO1.only).row.2 with ⟨h2, _⟩ | ⟨g', cap, cur, hv, hb, hg, h3, h4, h5, h6⟩
      · cases h2
      · injection hv with e1 _ e3
        injection e1 with e1
        injection e1 with e1 _ _
        subst e1 e3
        refine ⟨cur, ⟨hg, h5, fun t ht => ?_, fun t h1 h2 => ?_⟩, by rw [HN.out]; exact h3, h4⟩
        · rw [hkept, List.length_take] at ht
          have hkl : k ≤ L.length := by rw [← HN.out]; omega
          rw [hkept, (entCells_take L k hkl).1, ← h6, List.getElem?_take, List.getElem?_take, if_pos (by omega), if_pos (by omega)]
        · rw [← h6, List.getElem?_take, if_pos h2]
    have hlk : (keptE L (k + 1)).length = k := by rw [hkept, List.length_take]; rw [← HN.out]; omega
    have HK0 := Lib.hid hK0
    have HLK := Lib.hid hlk
    have HZR := Lib.hid (hO1.mono (l' := [g]) (by simp) (by simp; omega))
    clear hK0 hlk hkept hall h0 hO1
    have dk : ((k : Int) == -1) = false := beq_eq_false_iff_ne.2 (by omega)
    go_wp2_with fail
    go_loopw [5, 6] (fun a b wr => ∃ j : Nat, k + 1 ≤ j ∧ j ≤ N ∧ a = .int .i64 ((keptE L j).length : Nat) ∧ b = .int .i64 j ∧ (keptE L j).length < j ∧ OutAt w0 wr [g] o (zeroTo (spans L) j) ∧ ∃ cur, KeepInv wr g cp L j cur) (fun _ b _ => N - (intOf b).toNat)
    case atStart => exact ⟨k + 1, Nat.le_refl _, by omega, by rw [HLK.out], by go_num, by rw [HLK.out]; omega, HZR.out, cur0, HK0.out⟩
    case round =>
      obtain ⟨j, hj1, hj2, rfl, rfl, hlj, hO, cur, hK⟩ := hrel
      have HK := Lib.hid hK
      have HOO := Lib.hid hO
      by_cases hlt : j < N
      · have d1 : decide ((j : Int) < N) = true := decide_eq_true (by omega)
        obtain ⟨q0, q1, q2⟩ := hK.cells (by rw [← HN.out]; exact hlt)
        have hjL : j < L.length := by rw [← HN.out]; exact hlt
        have hn0 := HA.out.ne _ (eAt_mem hjL)
        have hsp0 := (HA.out.get hjL).1
        have hp0 := hsp0.ltp
        have hspA := (hsp0.only hO.only (by simp; exact fun e => hn0.2.2.1 (by rw [e]; rfl)) (by simp; exact fun e => hn0.2.2.2 (by rw [e]; rfl))).alloc (.cells #[.int .i64 (eAt L j).s.many, .int .i64 (eAt L j).s.start, .pointer (some ⟨(eAt L j).p, 0, none⟩)] 75)
        have CS := Lib.hid (struck_any (hO.alloc (.cells #[.int .i64 (eAt L j).s.many, .int .i64 (eAt L j).s.start, .pointer (some ⟨(eAt L j).p, 0, none⟩)] 75)) (by simp; exact hgl) hspA (by have := hO.ge; omega) (by have := zeroTo_len (spans L) j; omega))
        have HS := Lib.hid (sAt_spans L j)
        have hvb := Blk.new wr 75 #[.int .i64 (eAt L j).s.many, .int .i64 (eAt L j).s.start, .pointer (some ⟨(eAt L j).p, 0, none⟩)]
        have hgw : g < wr.heap.size := hK.blk.lt
        have HVB := Lib.hid hvb
        have HJL := Lib.hid hjL
        have hOB : Only [] wr (wr.alloc (.cells #[.int .i64 (eAt L j).s.many, .int .i64 (eAt L j).s.start, .pointer (some ⟨(eAt L j).p, 0, none⟩)] 75)) := (Only.refl _ _).alloc _
        obtain ⟨v, hvB, hvO, _⟩ := hO.ex
        have hno : wr.heap.size ≠ o := by have := hO.lt; omega
        have HFR := Lib.hid (fun w2 (H : ∀ v, Blk (wr.alloc (.cells #[.int .i64 (eAt L j).s.many, .int .i64 (eAt L j).s.start, .pointer (some ⟨(eAt L j).p, 0, none⟩)] 75)) o 30 #[v] → Only (o :: v.ownBlock.toList) (wr.alloc (.cells #[.int .i64 (eAt L j).s.many, .int .i64 (eAt L j).s.start, .pointer (some ⟨(eAt L j).p, 0, none⟩)] 75)) w2) => And.intro (H v (hvB.alloc _)) (And.intro (show g ∉ o :: v.ownBlock.toList by
          simp only [List.mem_cons, Option.mem_toList, not_or]
          exact ⟨by have := hO.ge; omega, fun h => by have := own_base hvO g h; omega⟩) (show wr.heap.size ∉ o :: v.ownBlock.toList by
          simp only [List.mem_cons, Option.mem_toList, not_or]
          exact ⟨hno, fun h => by have := own_lt hvO _ h; omega⟩)))
        have hcs := hK.size
        have hKA := hK.blk.alloc (.cells #[.int .i64 (eAt L j).s.many, .int .i64 (eAt L j).s.start, .pointer (some ⟨(eAt L j).p, 0, none⟩)] 75)
        have HKA := Lib.hid hKA
        clear hK hO hsp0 hspA hvb hn0 hvB hvO hno hKA
        generalize hi : (keptE L j).length = i at *
        have HI := Lib.hid hi
        clear hi
        by_cases h0 : (eAt L j).s.many = 0
        · have d2 : ((eAt L j).s.many == 0) = true := by simp [h0]
          have H0 := Lib.hid h0
          have HZ : Hid (zeroTo (spans L) (j + 1) = zeroTo (spans L) j ++ [((eAt L j).s.start, (eAt L j).s.pages)]) := by show _ = _; rw [zeroTo, HS.out, if_pos h0]
          have HKE : Hid (keptE L (j + 1) = keptE L j) := by show _ = _; rw [keptE, if_pos h0]
          rw [if_pos h0, d2] at CS
          clear h0 d2
          go_wp2_with (go_at_call 44; refine CS.out.mono ?_; rintro e w2 ⟨rfl, hO2, hFr⟩)
          obtain ⟨f1, f2, f3⟩ := HFR.out w2 hFr
          go_roundw
          case rel => exact ⟨j + 1, by omega, by omega, by rw [HKE.out, HI.out], by go_num, by rw [HKE.out, HI.out]; omega, by rw [HZ.out]; exact hO2, cur, HK.out.skip (HKA.out.only f1 f2) H0.out⟩
          case measure => simp [intOf]; omega
        · have d2 : ((eAt L j).s.many == 0) = false := by simp [h0]
          have H0 := Lib.hid h0
          have HZ : Hid (zeroTo (spans L) (j + 1) = zeroTo (spans L) j) := by show _ = _; rw [zeroTo, HS.out, if_neg h0]
          have HKE : Hid (keptE L (j + 1) = keptE L j ++ [eAt L j]) := by show _ = _; rw [keptE, if_neg h0]
          rw [if_neg h0, d2] at CS
          clear h0 d2
          go_wp2_with (go_at_call 44; refine CS.out.mono ?_; rintro e w2 ⟨rfl, hO2, hFr⟩; obtain ⟨f1, f2, f3⟩ := HFR.out w2 hFr; have B2 := HKA.out.only f1 f2; have V2 := HVB.out.only f1 f3; have v0 := V2.cell_ 0 rfl; have v1 := V2.cell_ 1 rfl; have v2 := V2.cell_ 2 rfl; have u0 := B2.cell_ (i * 3) (Array.getElem?_eq_getElem (by omega)); have u1 := B2.cell_ (i * 3 + 1) (Array.getElem?_eq_getElem (by omega)); have u2 := B2.cell_ (i * 3 + 2) (Array.getElem?_eq_getElem (by omega)); have g0 := B2.frozen (i * 3); have g1 := B2.frozen (i * 3 + 1); have g2 := B2.frozen (i * 3 + 2); have HB2 := Lib.hid B2; have HO2 := Lib.hid hO2; clear V2 B2 hFr f1 f2 f3 hO2)
          go_roundw
          case rel =>
            have oS : Only [g] w2 (((w2.setCell ⟨g, i * 3, none⟩ (.int .i64 (eAt L j).s.many)).setCell ⟨g, i * 3 + 1, none⟩ (.int .i64 (eAt L j).s.start)).setCell ⟨g, i * 3 + 2, none⟩ (.pointer (some ⟨(eAt L j).p, 0, none⟩))) := (((Only.refl [g] w2).setCell (.inl (by simp)) _).setCell (.inl (by simp)) _).setCell (.inl (by simp)) _
            have hBN := ((HB2.out.set_ (i * 3) (.int .i64 (eAt L j).s.many)).set_ (i * 3 + 1) (.int .i64 (eAt L j).s.start)).set_ (i * 3 + 2) (.pointer (some ⟨(eAt L j).p, 0, none⟩))
            refine ⟨j + 1, by omega, by omega, by rw [HKE.out, List.length_append, HI.out]; simp, by go_num, by rw [HKE.out, List.length_append, HI.out]; simp; omega, by rw [HZ.out]; exact HO2.out.write oS (by simp; exact hgl), _, HK.out.keep HJL.out (by rw [← HN.out]; exact hcp1) (by rw [HI.out]; exact hBN) H0.out⟩
          case measure => simp [intOf]; omega
      · have e : j = N := by omega
        subst e
        have d1 : decide ((j : Int) < j) = false := decide_eq_false (by omega)
        have hcs := hK.size
        obtain ⟨X, hX, hXs, hXl⟩ := run_clear3 wr g ((keptE L j).length * 3) (j - (keptE L j).length) (cp - (keptE L j).length) cur _ (by omega) hK.blk (by omega)
        generalize hi : (keptE L j).length = i at *
        have HI := Lib.hid hi
        have HXL := Lib.hid hXl
        have hci : ¬ (cp = i) := by omega
        have hb1 : (i : Int) ≤ (j : Int) := by omega
        have hb2 : i ≤ j := by omega
        clear hi hO hXl hK
        go_wp2_with fail
        go_ret
        refine ⟨_, rfl, rfl, ⟨?_, .inr ⟨g, cp, X, by rw [HI.out]; rfl, Nat.zero_le _, setRow_heap wr g cur X _ _ HK.out.blk, by rw [HI.out]; omega, hcp2, by omega, ?_⟩⟩, ?_⟩
        · rw [entCells_len]
        · rw [HI.out]
          apply List.ext_getElem?
          intro t
          rw [List.getElem?_take]
          by_cases ht : t < i * 3
          · rw [if_pos ht, HXL.out t ht]
            exact HK.out.low t (by rw [HI.out]; exact ht)
          · rw [if_neg ht, List.getElem?_eq_none]
            rw [entCells_len, HI.out]
            omega
        · exact HOO.out.write (only_setRow (Only.refl [g] wr) (.inl (by simp))) (by simp; exact hgl)
end Go.Proofs.Ytlmjelcnldlagaa

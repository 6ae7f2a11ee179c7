/- CentralOneByOne, walked. -/
import Derived.Test.YtlmjelcnldlagaaZLV
set_option linter.unusedVariables false
set_option linter.unusedSimpArgs false
namespace Go.Proofs.Ytlmjelcnldlagaa
open Go.RowKit

theorem takesTo_add (M : List Sp) (m n : Nat) : takesTo M (m + n) = ((takesTo M m).1 ++ (takesTo (takesTo M m).2 n).1, (takesTo (takesTo M m).2 n).2) := by
  induction n with
  | zero => simp [takesTo]
  | succ n ih =>
    rw [← Nat.add_assoc, takesTo, ih]
    dsimp only
    conv => rhs; rw [takesTo]
    split
    · simp
    · rfl

theorem news_ints {w : World} {base n : Nat} {v : Value} {l : List Int} (h : w.ownsRow base 3 1 v n (l.map (Value.int .i64))) {W : World} (ho : Only [] w W) {ad : Addr} {c : Nat} (e : v = .slice (some ad) n c) : ∀ j u, (l.map (Value.int .i64))[j]? = some u → W.cell? (ad.add j) = some u := by
  intro j u hu
  have hj : j < l.length := by
    rcases Nat.lt_or_ge j l.length with h1 | h1
    · exact h1
    · rw [List.getElem?_eq_none (by simpa using h1)] at hu; cases hu
  obtain ⟨A, c', e', hr, _⟩ := own_reads h
  rw [e] at e'
  injection e' with e1 e2
  have hl : l.length = n := hr.1
  obtain ⟨ad', e3, hc⟩ := hr.2 (by omega)
  rw [← e1] at e3
  injection e3 with e3
  subst e3
  have := hc j (by omega)
  have h2 := (ho.cell (World.block_lt_of_cell? w _ this) (by simp)).trans this
  rw [h2]
  rw [List.getElem?_map, List.getElem?_eq_getElem hj] at hu
  rw [List.getD_eq_getElem?_getD, List.getElem?_eq_getElem hj]
  exact hu
theorem ints_two (w : World) {b1 b2 : Nat} {u v : Value} {n : Nat} {l : List Int} (h : w.ownsRow b1 3 1 u n (l.map (Value.int .i64))) (h' : w.ownsRow b2 3 1 v n (l.map (Value.int .i64))) (hn : n ≤ 1000000) : Grew Try.prog 28 #[u, v] w (.bool true) := by
  obtain ⟨B, d, rfl, hr, _⟩ := own_reads h'
  exact ints_own w h hr hn

theorem own_le {w : World} {base : Nat} {e : TypeId} {size n c : Nat} {A : Option Addr} {xs : List Value} (h : w.ownsRow base e size (.slice A n c) n xs) : n ≤ c := by
  rcases h.2 with ⟨e1, e2⟩ | ⟨g, cap, cur, hv, _, _, h3, _⟩
  · omega
  · injection hv with _ _ e3
    omega

theorem own_some {w : World} {base : Nat} {e : TypeId} {size n : Nat} {v : Value} {xs : List Value} (h : w.ownsRow base e size v n xs) (hn : v ≠ .slice none 0 0) : ∃ g c, v = .slice (some ⟨g, 0, none⟩) n c := by
  rcases h.2 with ⟨e1, e2⟩ | ⟨g, cap, cur, hv, _⟩
  · exact absurd e1 hn
  · exact ⟨g, cap, hv⟩

set_option maxRecDepth 100000 in
set_option maxHeartbeats 8000000 in
theorem CentralOneByOne_walk (w : World) (cx cy cz : Int) (_ : I64 cx) (_ : I64 cy) (_ : I64 cz) (A : Option Addr) (n cp : Nat) (l : List Ac7) (hr : ReadsA w A n l) (hn : n ≤ 9223372036854775807) (a : Int) (ha : 0 ≤ a ∧ a ≤ 255) (b : Int) (hb : 0 ≤ b ∧ b ≤ 255) :
    Grew Try.prog 7 #[.agg #[.int .i64 cx, .int .i64 cy, .int .i64 cz], .slice A n cp, .int .u8 a, .int .u8 b] w (.bool true) := by
  have hlen := hr.1
  have o1 := (Only.refl [] w).alloc (.cells #[.int .i64 cx, .int .i64 cy, .int .i64 cz] 23)
  have bC := Blk.new w 23 #[.int .i64 cx, .int .i64 cy, .int .i64 cz]
  have CG := Lib.hid (great_any (w.alloc (.cells #[.int .i64 cx, .int .i64 cy, .int .i64 cz] 23)) A n cp l (hr.still o1) hn)
  have CM := Lib.hid (fun W (h : Only [] w W) (h60 : ∀ j, j < n → (xAt l j).n ≤ 60) => lmadeOf_any W ⟨cx, cy, cz⟩ A n cp l (hr.still h) hn h60)
  have HO1 := Lib.hid o1
  obtain ⟨m, rfl⟩ : ∃ m : Nat, a = m := ⟨a.toNat, by omega⟩
  obtain ⟨k, rfl⟩ : ∃ k : Nat, b = k := ⟨b.toNat, by omega⟩
  cases hg : greatOf l with
  | true =>
    rw [hg] at CG
    clear hr hlen bC
    go_enter Try.func7, Try.ntmps7
    go_wp2_with (first | (go_at_call 13; with_reducible refine Still.use CG.out ?_) | (go_at_call 14; with_reducible refine Grew.use (alive_any _) (fun w5 ho5 => ?_)))
    go_ret
    exact ⟨rfl, HO1.out.trans ho5⟩
  | false =>
    rw [hg] at CG
    have h60 : ∀ j, j < n → (xAt l j).n ≤ 60 := fun j hj => (greatOf_false hg).2 j (by rw [hlen]; exact hj)
    have H60 := Lib.hid h60
    have b0 := bC.drew
    clear hr hlen bC hg h60
    obtain ⟨i0, hi, hz0, hz1, hz2⟩ := info_parts info_int
    by_cases hok : (⟨cx, cy, cz⟩ : Cl).ok
    · have HOK := Lib.hid hok
      clear hok
      go_enter Try.func7, Try.ntmps7
      go_wp2_with (first | (go_at_call 13; with_reducible refine Still.use CG.out ?_))
      generalize w.alloc (.cells #[.int .i64 cx, .int .i64 cy, .int .i64 cz] 23) = w1 at *
      have CMA := Lib.hid (CM.out w1.drew HO1.out.drew H60.out)
      have CMB := Lib.hid (fun W (h : Only [] w W) => CM.out W h H60.out)
      clear CM CG
      go_region_held3 (fun w' => w'.cell? ⟨w.heap.size, 0, none⟩ = some (.int .i64 cx) ∧ w'.cell? ⟨w.heap.size, 1, none⟩ = some (.int .i64 cy) ∧ w'.cell? ⟨w.heap.size, 2, none⟩ = some (.int .i64 cz))
        (refine ⟨Blk.cell_ (t := 23) (cs := #[.int .i64 cx, .int .i64 cy, .int .i64 cz]) ?_ 0 rfl, Blk.cell_ (t := 23) (cs := #[.int .i64 cx, .int .i64 cy, .int .i64 cz]) ?_ 1 rfl, Blk.cell_ (t := 23) (cs := #[.int .i64 cx, .int .i64 cy, .int .i64 cz]) ?_ 2 rfl⟩ <;> assumption)
        (first
          | (go_at_call 15; with_reducible refine Calls.mono CMA.out ?_; rintro e w2 ⟨ho2, h1, _⟩; obtain ⟨P, bl, rfl, hst, hbl⟩ := h1 HOK.out; have o2 := HO1.out.drew.trans ho2; have b2 := b0.only ho2 (by simp); have HST := Lib.hid hst; have HBL := Lib.hid hbl; clear h1 hst hbl)
          | (go_at_call 15; with_reducible refine Calls.mono (CMB.out w2 o2) ?_; rintro e w3 ⟨ho3, h1, _⟩; obtain ⟨Q, bl', rfl, hst', hbl'⟩ := h1 HOK.out; have o3 := o2.trans ho3; have b3 := b2.only ho3 (by simp); have HST' := Lib.hid hst'; have HBL' := Lib.hid hbl'; clear h1 hst' hbl'))
      generalize acts ⟨cx, cy, cz⟩ [] l n = M at *
      have hw1 : w.heap.size ≤ w1.drew.heap.size := HO1.out.drew.size
      have hw2 : w1.drew.heap.size ≤ w2.heap.size := ho2.size
      have hw3 : w2.heap.size ≤ w3.heap.size := ho3.size
      have hPl : ∀ b ∈ bl, b < w2.heap.size := HST.out.lt
      have hQl : ∀ b ∈ bl', b < w3.heap.size := HST'.out.lt
      have HPL := Lib.hid hPl
      have HQL := Lib.hid hQl
      have T1 := Lib.hid (lTake_at (HST.out.still ho3) ((m : Int) + (k : Int)))
      clear CMA CMB hPl hQl
      go_wp2_with fail
      refine T1.out.mono ?_
      rintro e w4 ⟨hoA, _, h1⟩
      obtain ⟨v1, rfl, hstA, hown1⟩ := h1 (by omega)
      rw [show ((m : Int) + (k : Int)).toNat = m + k by omega, takesTo_add] at hstA hown1
      dsimp only at hstA hown1
      have hstB := HST'.out.only hoA (fun b hb hb' => by
        have a1 : w2.heap.size ≤ b := HBL'.out b hb
        have a2 := HPL.out b hb'
        omega)
      have o4 : Only [] w w4 := o3.then_ hoA (fun b hb => .inr (by
        have a1 : w1.drew.heap.size ≤ b := HBL.out b hb
        omega))
      have T2 := Lib.hid (lTake_at hstB (m : Int))
      have HSA := Lib.hid hstA
      have HOA := Lib.hid hown1
      have hw4 : w3.heap.size ≤ w4.heap.size := hoA.size
      clear hstA hown1 h1 hstB T1
      go_wp2_with fail
      refine T2.out.mono ?_
      rintro e w5 ⟨hoB, _, h1⟩
      obtain ⟨v2, rfl, hstB, hown2⟩ := h1 (by omega)
      rw [Int.toNat_natCast] at hstB hown2
      have o5 : Only [] w w5 := o4.then_ hoB (fun b hb => .inr (by
        have a1 : w2.heap.size ≤ b := HBL'.out b hb
        omega))
      have hstA := HSA.out.only hoB (fun b hb hb' => by
        have a1 := HPL.out b hb
        have a2 : w2.heap.size ≤ b := HBL'.out b hb'
        omega)
      have hown1 := own_only HOA.out hoB (fun b hb hb' => by
        have a1 := own_base HOA.out b hb
        have a2 := HQL.out b hb'
        omega)
      have T3 := Lib.hid (lTake_at hstB (k : Int))
      have HSA5 := Lib.hid hstA
      have HOA5 := Lib.hid hown1
      have HOB5 := Lib.hid hown2
      have hw5 : w4.heap.size ≤ w5.heap.size := hoB.size
      have hmb := (takesTo_len M m)
      clear hstA hown1 h1 hstB hown2 T2 HSA HOA
      go_wp2_with fail
      refine T3.out.mono ?_
      rintro e w6 ⟨hoC, _, h1⟩
      obtain ⟨v3, rfl, hstB, hown3⟩ := h1 (by omega)
      rw [Int.toNat_natCast] at hstB hown3
      have hkb := (takesTo_len (takesTo M m).2 k)
      have o6 : Only [] w w6 := o5.then_ hoC (fun b hb => .inr (by
        have a1 : w2.heap.size ≤ b := HBL'.out b hb
        omega))
      have hstA := HSA5.out.only hoC (fun b hb hb' => by
        have a1 := HPL.out b hb
        have a2 : w2.heap.size ≤ b := HBL'.out b hb'
        omega)
      have hown1 := own_only HOA5.out hoC (fun b hb hb' => by
        have a1 := own_base HOA5.out b hb
        have a2 := HQL.out b hb'
        omega)
      have hown2 := own_only HOB5.out hoC (fun b hb hb' => by
        have a1 := own_base HOB5.out b hb
        have a2 := HQL.out b hb'
        omega)
      have HL := Lib.hid (fun W (h : Only [] w6 W) => lalike_any (hstA.still h) (hstB.still h))
      have HOA6 := Lib.hid hown1
      have HOB6 := Lib.hid hown2
      have HOC6 := Lib.hid hown3
      generalize (takesTo M m).1 = ys at *
      generalize (takesTo (takesTo M m).2 k).1 = zs at *
      generalize (takesTo (takesTo M m).2 k).2 = M2 at *
      clear h1 T3 hstA hstB HSA5 HOA5 HOB5
      rcases hown2.2 with ⟨rfl, hy0⟩ | ⟨gy, cy', cury, rfl, _⟩
      · obtain rfl : ys = [] := List.length_eq_zero_iff.1 hy0
        rcases hown3.2 with ⟨rfl, hz0'⟩ | ⟨gz, cz', curz, rfl, _⟩
        · obtain rfl : zs = [] := List.length_eq_zero_iff.1 hz0'
          have hn8 : Only [] w6 (w6.alloc (.cells #[] 3)) := (Only.refl [] w6).alloc _
          have CI := Lib.hid (ints_two (w6.alloc (.cells #[] 3)) (own_only HOA6.out hn8 (by simp)) (own0 w6 3) (by simp))
          clear hown1 hown2 hown3
          go_wp2_with (first
            | (go_at_call 28; with_reducible refine Grew.use CI.out (fun w9 ho9 => ?_); have hn9 := hn8.trans ho9)
            | (go_at_call 29; with_reducible refine Grew.use (HL.out w9 hn9) (fun wa hoa => ?_))
            | (go_at_call 14; with_reducible refine Grew.use (alive_any _) (fun wb hob => ?_)))
          go_ret
          exact ⟨rfl, ((o6.trans hn9).trans hoa).trans hob⟩
        · have hn7 : Only [] w6 (w6.alloc (.cells #[] 3)) := (Only.refl [] w6).alloc _
          have hs7 := hn7.size
          clear hown1 hown2 hown3
          go_wp2_with (first
            | (at_builtin; refine wpList_append_own _ rfl (.tmp 68) (.tmp 69) 25 rfl w6.heap.size 3 i0 (.int .i64 0) 1 8 Try.underlying25 hi hz0 hz1 hz2 rfl (by decide) _ _ _ rfl (own0 w6 _) ⟨gz, 0, none⟩ zs.length cz' (zs.map (Value.int .i64)) rfl (by simp) (news_ints HOC6.out hn7 rfl) (one_cell_int zs) (by unfold maxLen; omega) (by omega) hs7 ?_; intro u2 w8 hu2 hg2 _; have hn8 : Only [] w6 w8 := hn7.grown hg2 (fun b hb => .inr (own_base (own0 w6 3) b hb)); have CI := Lib.hid (ints_two w8 (own_only HOA6.out hn8 (by simp)) (by simpa using hu2) (by simp; omega)))
            | (go_at_call 28; with_reducible refine Grew.use CI.out (fun w9 ho9 => ?_); have hn9 := hn8.trans ho9)
            | (go_at_call 29; with_reducible refine Grew.use (HL.out w9 hn9) (fun wa hoa => ?_))
            | (go_at_call 14; with_reducible refine Grew.use (alive_any _) (fun wb hob => ?_)))
          go_ret
          exact ⟨rfl, ((o6.trans hn9).trans hoa).trans hob⟩
      · rcases hown3.2 with ⟨rfl, hz0'⟩ | ⟨gz, cz', curz, rfl, _⟩
        · obtain rfl : zs = [] := List.length_eq_zero_iff.1 hz0'
          clear hown1 hown2 hown3
          go_wp2_with (first
            | (at_builtin; refine wpList_append_own _ rfl (.tmp 66) (.tmp 67) 25 rfl w6.heap.size 3 i0 (.int .i64 0) 1 8 Try.underlying25 hi hz0 hz1 hz2 rfl (by decide) _ _ _ rfl (own0 w6 _) ⟨gy, 0, none⟩ ys.length cy' (ys.map (Value.int .i64)) rfl (by simp) (news_ints HOB6.out ((Only.refl [] w6).alloc _) rfl) (one_cell_int ys) (by unfold maxLen; omega) (by omega) (by simp) ?_; intro u1 w7 hu1 hg1 hnil; have hn8 : Only [] w6 w7 := ((Only.refl [] w6).alloc _).grown hg1 (fun b hb => .inr (own_base (own0 w6 3) b hb)); rw [Nat.zero_add, List.nil_append] at hu1; obtain ⟨g1, c1, rfl⟩ := own_some hu1 (fun e => (by have h := (show Value.slice (some ⟨w6.heap.size, 0, none⟩) 0 0 = .slice none 0 0 from (hnil.1 e).1); cases h)); have hlc := own_le hu1; have CI := Lib.hid (ints_two w7 (own_only HOA6.out hn8 (by simp)) (by simpa using hu1) (by simp; omega)))
            | (go_at_call 28; with_reducible refine Grew.use CI.out (fun w9 ho9 => ?_); have hn9 := hn8.trans ho9)
            | (go_at_call 29; with_reducible refine Grew.use (HL.out w9 hn9) (fun wa hoa => ?_))
            | (go_at_call 14; with_reducible refine Grew.use (alive_any _) (fun wb hob => ?_)))
          go_ret
          exact ⟨rfl, ((o6.trans hn9).trans hoa).trans hob⟩
        · clear hown1 hown2 hown3
          go_wp2_with (first
            | (at_builtin; refine wpList_append_own _ rfl (.tmp 66) (.tmp 67) 25 rfl w6.heap.size 3 i0 (.int .i64 0) 1 8 Try.underlying25 hi hz0 hz1 hz2 rfl (by decide) _ _ _ rfl (own0 w6 _) ⟨gy, 0, none⟩ ys.length cy' (ys.map (Value.int .i64)) rfl (by simp) (news_ints HOB6.out ((Only.refl [] w6).alloc _) rfl) (one_cell_int ys) (by unfold maxLen; omega) (by omega) (by simp) ?_; intro u1 w7 hu1 hg1 _; have hn7 : Only [] w6 w7 := ((Only.refl [] w6).alloc _).grown hg1 (fun b hb => .inr (own_base (own0 w6 3) b hb)); have hs7 := hn7.size)
            | (at_builtin; refine wpList_append_own _ rfl (.tmp 68) (.tmp 69) 25 rfl w6.heap.size 3 i0 (.int .i64 0) 1 8 Try.underlying25 hi hz0 hz1 hz2 rfl (by decide) _ _ _ rfl hu1 ⟨gz, 0, none⟩ zs.length cz' (zs.map (Value.int .i64)) rfl (by simp) (news_ints HOC6.out hn7 rfl) (one_cell_int zs) (by unfold maxLen; omega) (by omega) hs7 ?_; intro u2 w8 hu2 hg2 _; have hn8 : Only [] w6 w8 := hn7.grown hg2 (fun b hb => .inr (own_base hu1 b hb)); have CI := Lib.hid (ints_two w8 (own_only HOA6.out hn8 (by simp)) (by simpa using hu2) (by simp; omega)))
            | (go_at_call 28; with_reducible refine Grew.use CI.out (fun w9 ho9 => ?_); have hn9 := hn8.trans ho9)
            | (go_at_call 29; with_reducible refine Grew.use (HL.out w9 hn9) (fun wa hoa => ?_))
            | (go_at_call 14; with_reducible refine Grew.use (alive_any _) (fun wb hob => ?_)))
          go_ret
          exact ⟨rfl, ((o6.trans hn9).trans hoa).trans hob⟩
    · have HOK := Lib.hid hok
      clear hok
      go_enter Try.func7, Try.ntmps7
      go_wp2_with (first | (go_at_call 13; with_reducible refine Still.use CG.out ?_))
      generalize w.alloc (.cells #[.int .i64 cx, .int .i64 cy, .int .i64 cz] 23) = w1 at *
      have CMA := Lib.hid (CM.out w1.drew HO1.out.drew H60.out)
      have CMB := Lib.hid (fun W (h : Only [] w W) => CM.out W h H60.out)
      clear CM CG
      go_region_held3 (fun w' => w'.cell? ⟨w.heap.size, 0, none⟩ = some (.int .i64 cx) ∧ w'.cell? ⟨w.heap.size, 1, none⟩ = some (.int .i64 cy) ∧ w'.cell? ⟨w.heap.size, 2, none⟩ = some (.int .i64 cz))
        (refine ⟨Blk.cell_ (t := 23) (cs := #[.int .i64 cx, .int .i64 cy, .int .i64 cz]) ?_ 0 rfl, Blk.cell_ (t := 23) (cs := #[.int .i64 cx, .int .i64 cy, .int .i64 cz]) ?_ 1 rfl, Blk.cell_ (t := 23) (cs := #[.int .i64 cx, .int .i64 cy, .int .i64 cz]) ?_ 2 rfl⟩ <;> assumption)
        (first
          | (go_at_call 15; with_reducible refine Calls.mono CMA.out ?_; rintro e w2 ⟨ho2, _, h1⟩; rw [h1 HOK.out]; have o2 := HO1.out.drew.trans ho2; have b2 := b0.only ho2 (by simp); clear h1)
          | (go_at_call 15; with_reducible refine Calls.mono (CMB.out w2 o2) ?_; rintro e w3 ⟨ho3, _, h1⟩; rw [h1 HOK.out]; have o3 := o2.trans ho3; have b3 := b2.only ho3 (by simp); clear h1))
      go_wp2_with (first | (go_at_call 14; with_reducible refine Grew.use (alive_any _) (fun w5 ho5 => ?_)))
      go_ret
      exact ⟨rfl, o3.trans ho5⟩
end Go.Proofs.Ytlmjelcnldlagaa
